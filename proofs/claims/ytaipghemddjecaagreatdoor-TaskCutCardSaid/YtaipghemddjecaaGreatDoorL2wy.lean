import Derived.Test.YtaipghemddjecaaGreatDoorMiy
import Derived.Test.YtaipghemddjecaaGreatDoorProg
import Derived.Test.YtaipghemddjecaaGreatDoorL1wy
namespace Go.Proofs.YtaipghemddjecaaGreatDoor
set_option maxHeartbeats 40000000
set_option maxRecDepth 100000
open Go.RowKit
set_option linter.unusedVariables false
set_option linter.unusedSimpArgs false
def Qw.l0:Nat→ByteArray→Int→Int→Int→Int→Int→Nat→Option (Int×Int×Int)
 |0,_,_,_,_,_,_,_=>none
 |k+1,a0,a1,a2,a3,x9_0,x10_0,yb12_0_0=>if yb12_0_0<(a0.extract (a1:Int).toNat a0.size).size then (if ((Utf8.decode (a0.extract (a1:Int).toNat a0.size) yb12_0_0).1:Int)<48 then (if (wrap64 (a1+(yb12_0_0:Int)))>a1 then (if x9_0≥a2 then (some (wrap64 (a1+(yb12_0_0:Int)),x9_0,0)) else (if (wrap64 (a1+(yb12_0_0:Int)))=(a0.size:Int) then (some (wrap64 (a1+(yb12_0_0:Int)),0,1)) else (some (wrap64 (a1+(yb12_0_0:Int)),0,2)))) else (if (wrap64 (a1+(yb12_0_0:Int)))=(a0.size:Int) then (some (wrap64 (a1+(yb12_0_0:Int)),0,1)) else (some (wrap64 (a1+(yb12_0_0:Int)),0,2)))) else (if ((Utf8.decode (a0.extract (a1:Int).toNat a0.size) yb12_0_0).1:Int)>57 then (if (wrap64 (a1+(yb12_0_0:Int)))>a1 then (if x9_0≥a2 then (some (wrap64 (a1+(yb12_0_0:Int)),x9_0,0)) else (if (wrap64 (a1+(yb12_0_0:Int)))=(a0.size:Int) then (some (wrap64 (a1+(yb12_0_0:Int)),0,1)) else (some (wrap64 (a1+(yb12_0_0:Int)),0,2)))) else (if (wrap64 (a1+(yb12_0_0:Int)))=(a0.size:Int) then (some (wrap64 (a1+(yb12_0_0:Int)),0,1)) else (some (wrap64 (a1+(yb12_0_0:Int)),0,2)))) else (if (yb12_0_0:Int)>0 then (if x9_0=0 then (some (wrap64 (a1+(yb12_0_0:Int)),0,2)) else (if (yb12_0_0:Int)=0 then (if 1<a2 then (if (wrap64 ((wrap64 (10*x9_0))+(wrap64 (wrap32 (((Utf8.decode (a0.extract (a1:Int).toNat a0.size) yb12_0_0).1:Int)-48)))))<1 then (some (wrap64 (a1+(yb12_0_0:Int)),0,2)) else (if (wrap64 ((wrap64 (10*x9_0))+(wrap64 (wrap32 (((Utf8.decode (a0.extract (a1:Int).toNat a0.size) yb12_0_0).1:Int)-48)))))>a3 then (some (wrap64 (a1+(yb12_0_0:Int)),0,2)) else (Qw.l0 k a0 a1 a2 a3 (wrap64 ((wrap64 (10*x9_0))+(wrap64 (wrap32 (((Utf8.decode (a0.extract (a1:Int).toNat a0.size) yb12_0_0).1:Int)-48))))) x10_0 (yb12_0_0+(Utf8.decode (a0.extract (a1:Int).toNat a0.size) yb12_0_0).2)))) else (if (wrap64 ((wrap64 (10*x9_0))+(wrap64 (wrap32 (((Utf8.decode (a0.extract (a1:Int).toNat a0.size) yb12_0_0).1:Int)-48)))))<a2 then (some (wrap64 (a1+(yb12_0_0:Int)),0,2)) else (if (wrap64 ((wrap64 (10*x9_0))+(wrap64 (wrap32 (((Utf8.decode (a0.extract (a1:Int).toNat a0.size) yb12_0_0).1:Int)-48)))))>a3 then (some (wrap64 (a1+(yb12_0_0:Int)),0,2)) else (Qw.l0 k a0 a1 a2 a3 (wrap64 ((wrap64 (10*x9_0))+(wrap64 (wrap32 (((Utf8.decode (a0.extract (a1:Int).toNat a0.size) yb12_0_0).1:Int)-48))))) x10_0 (yb12_0_0+(Utf8.decode (a0.extract (a1:Int).toNat a0.size) yb12_0_0).2))))) else (if (wrap64 ((wrap64 (10*x9_0))+(wrap64 (wrap32 (((Utf8.decode (a0.extract (a1:Int).toNat a0.size) yb12_0_0).1:Int)-48)))))>a3 then (some (wrap64 (a1+(yb12_0_0:Int)),0,2)) else (Qw.l0 k a0 a1 a2 a3 (wrap64 ((wrap64 (10*x9_0))+(wrap64 (wrap32 (((Utf8.decode (a0.extract (a1:Int).toNat a0.size) yb12_0_0).1:Int)-48))))) x10_0 (yb12_0_0+(Utf8.decode (a0.extract (a1:Int).toNat a0.size) yb12_0_0).2))))) else (if (yb12_0_0:Int)=0 then (if 1<a2 then (if (wrap64 ((wrap64 (10*x9_0))+(wrap64 (wrap32 (((Utf8.decode (a0.extract (a1:Int).toNat a0.size) yb12_0_0).1:Int)-48)))))<1 then (some (wrap64 (a1+(yb12_0_0:Int)),0,2)) else (if (wrap64 ((wrap64 (10*x9_0))+(wrap64 (wrap32 (((Utf8.decode (a0.extract (a1:Int).toNat a0.size) yb12_0_0).1:Int)-48)))))>a3 then (some (wrap64 (a1+(yb12_0_0:Int)),0,2)) else (Qw.l0 k a0 a1 a2 a3 (wrap64 ((wrap64 (10*x9_0))+(wrap64 (wrap32 (((Utf8.decode (a0.extract (a1:Int).toNat a0.size) yb12_0_0).1:Int)-48))))) x10_0 (yb12_0_0+(Utf8.decode (a0.extract (a1:Int).toNat a0.size) yb12_0_0).2)))) else (if (wrap64 ((wrap64 (10*x9_0))+(wrap64 (wrap32 (((Utf8.decode (a0.extract (a1:Int).toNat a0.size) yb12_0_0).1:Int)-48)))))<a2 then (some (wrap64 (a1+(yb12_0_0:Int)),0,2)) else (if (wrap64 ((wrap64 (10*x9_0))+(wrap64 (wrap32 (((Utf8.decode (a0.extract (a1:Int).toNat a0.size) yb12_0_0).1:Int)-48)))))>a3 then (some (wrap64 (a1+(yb12_0_0:Int)),0,2)) else (Qw.l0 k a0 a1 a2 a3 (wrap64 ((wrap64 (10*x9_0))+(wrap64 (wrap32 (((Utf8.decode (a0.extract (a1:Int).toNat a0.size) yb12_0_0).1:Int)-48))))) x10_0 (yb12_0_0+(Utf8.decode (a0.extract (a1:Int).toNat a0.size) yb12_0_0).2))))) else (if (wrap64 ((wrap64 (10*x9_0))+(wrap64 (wrap32 (((Utf8.decode (a0.extract (a1:Int).toNat a0.size) yb12_0_0).1:Int)-48)))))>a3 then (some (wrap64 (a1+(yb12_0_0:Int)),0,2)) else (Qw.l0 k a0 a1 a2 a3 (wrap64 ((wrap64 (10*x9_0))+(wrap64 (wrap32 (((Utf8.decode (a0.extract (a1:Int).toNat a0.size) yb12_0_0).1:Int)-48))))) x10_0 (yb12_0_0+(Utf8.decode (a0.extract (a1:Int).toNat a0.size) yb12_0_0).2))))))) else (if x10_0>a1 then (if x9_0≥a2 then (some (x10_0,x9_0,0)) else (if x10_0=(a0.size:Int) then (some (x10_0,0,1)) else (some (x10_0,0,2)))) else (if x10_0=(a0.size:Int) then (some (x10_0,0,1)) else (some (x10_0,0,2))))
def Qw.f(k:Nat)(a0:ByteArray)(a1 a2 a3:Int):Option (Int×Int×Int):=(QD.f a0 a1).bind fun t2=>(if t2=true then (if a2<0 then ((QG.f).bind fun bt3=>(some (bt3.1,bt3.2.1,bt3.2.2))) else (if a2>a3 then ((QG.f).bind fun bt6=>(some (bt6.1,bt6.2.1,bt6.2.2))) else (if a3>1000000 then ((QG.f).bind fun bt9=>(some (bt9.1,bt9.2.1,bt9.2.2))) else (if 0≤a1 then (if a1≤(a0.size:Int) then (Qw.l0 k a0 a1 a2 a3 0 (a0.size:Int) 0) else (none)) else (none))))) else ((QG.f).bind fun bt13=>(some (bt13.1,bt13.2.1,bt13.2.2))))
theorem Qw.c(k:Nat)(a0:ByteArray)(a1 a2 a3 r1 r2 r3:Int)(w:World)(h:Qw.f k a0 a1 a2 a3=some (r1,r2,r3)):
 Calls Tryz.prog 65 #[.string a0,Ii a1,Ii a2,Ii a3] w fun e w'=>e=.returned (.agg #[Ii r1,Ii r2,Ii r3])∧Below w.heap.size w w':=by
 have HL:=hid (Below.refl w.heap.size w)
 have H:((QD.f a0 a1).bind fun t2=>(if t2=true then (if a2<0 then ((QG.f).bind fun bt3=>(some (bt3.1,bt3.2.1,bt3.2.2))) else (if a2>a3 then ((QG.f).bind fun bt6=>(some (bt6.1,bt6.2.1,bt6.2.2))) else (if a3>1000000 then ((QG.f).bind fun bt9=>(some (bt9.1,bt9.2.1,bt9.2.2))) else (if 0≤a1 then (if a1≤(a0.size:Int) then (Qw.l0 k a0 a1 a2 a3 0 (a0.size:Int) 0) else (none)) else (none))))) else ((QG.f).bind fun bt13=>(some (bt13.1,bt13.2.1,bt13.2.2)))))=some (r1,r2,r3):=h
 clear h
 replace H:=Ia H
 obtain ⟨t2,A16_,H⟩:=H
 have A16:=hid A16_
 clear A16_
 cases t2 with
 |true=>
  rw [if_pos rfl] at H
  by_cases c18:a2<0
  ·
   rw [if_pos c18] at H
   have c18b0:decide (a2<0)=true:=decide_eq_true c18
   have hc18:=hid c18
   clear c18
   replace H:=Ia H
   obtain ⟨⟨t3,t4,t5⟩,A19_,H⟩:=H
   dsimp only at H
   have A19:=hid A19_
   clear A19_
   simp only [Option.some.injEq,Prod.mk.injEq] at H
   obtain ⟨rfl,rfl,rfl⟩:=H
   go_enter Tryz.func65,Tryz.ntmps65
   have k21:=True.intro
   have k22:=True.intro
   go_wp2_with (first
    |((with_reducible refine Qa (N:=8) rfl ?_);obtain ⟨gb1,hgb1⟩:∃ g_,w.heap.size=g_:=⟨_,rfl⟩;refine Qq Qs gb1 hgb1 rfl rfl ?_;intro w20 hb_ hB_ hs_;have GEb1:Hid (w.heap.size≤gb1):=hid (by have:=HL.out.size;omega);replace HL:=hid (HL.out.trans (hb_.mono GEb1.out));have BKb1:=hid hB_;clear hb_ hB_ hs_ hgb1)
    |(go_at_call 66;clear k21;refine (QD.c a0 a1 true _ A16.out).mono ?_;rintro e_ w' ⟨rfl,rfl⟩)
    |(go_at_call 67;clear k22;refine (QG.c t3 t4 t5 _ A19.out).mono ?_;rintro e_ w23 ⟨rfl,hb_⟩;replace BKb1:=hid (BKb1.out.below hb_ BKb1.out.lt);replace HL:=hid (HL.out.trans (hb_.mono HL.out.size));clear hb_)
    |((with_reducible refine Qf (t:=75) (p:=8) rfl ?_);refine Qg Qs gb1 0 #[Ii 0,Ii 0,Ii 0] #[Ii t3,Ii t4,Ii t5] #[Ii t3,Ii t4,Ii t5] BKb1.out rfl (by simp) (by intro v_ hv_;simp at hv_;rcases hv_ with rfl|rfl|rfl <;> first|rfl) rfl rfl _ _ rfl rfl rfl ?_;intro w24 ho_ hB_;replace HL:=hid (ho_.below HL.out GEb1.out);replace BKb1:=hid hB_;clear ho_ hB_))
   (try simp only [Act.put,sI,sZ,sS])
   refine bodyPost_ret (v:=.agg #[Ii t3,Ii t4,Ii t5]) (Jz Qs rfl _ gb1 #[Ii t3,Ii t4,Ii t5] BKb1.out rfl rfl) rfl ?_
   exact ⟨by first|rfl|(simp;done)|(simp [*];done),HL.out⟩
  ·
   rw [if_neg c18] at H
   have c18b0:decide (a2<0)=false:=decide_eq_false c18
   have hc18:=hid c18
   clear c18
   by_cases c25:a2>a3
   ·
    rw [if_pos c25] at H
    have c25b0:decide (a3<a2)=true:=decide_eq_true c25
    have hc25:=hid c25
    clear c25
    replace H:=Ia H
    obtain ⟨⟨t6,t7,t8⟩,A26_,H⟩:=H
    dsimp only at H
    have A26:=hid A26_
    clear A26_
    simp only [Option.some.injEq,Prod.mk.injEq] at H
    obtain ⟨rfl,rfl,rfl⟩:=H
    go_enter Tryz.func65,Tryz.ntmps65
    have k28:=True.intro
    have k29:=True.intro
    go_wp2_with (first
     |((with_reducible refine Qa (N:=8) rfl ?_);obtain ⟨gb1,hgb1⟩:∃ g_,w.heap.size=g_:=⟨_,rfl⟩;refine Qq Qs gb1 hgb1 rfl rfl ?_;intro w27 hb_ hB_ hs_;have GEb1:Hid (w.heap.size≤gb1):=hid (by have:=HL.out.size;omega);replace HL:=hid (HL.out.trans (hb_.mono GEb1.out));have BKb1:=hid hB_;clear hb_ hB_ hs_ hgb1)
     |(go_at_call 66;clear k28;refine (QD.c a0 a1 true _ A16.out).mono ?_;rintro e_ w' ⟨rfl,rfl⟩)
     |(go_at_call 67;clear k29;refine (QG.c t6 t7 t8 _ A26.out).mono ?_;rintro e_ w30 ⟨rfl,hb_⟩;replace BKb1:=hid (BKb1.out.below hb_ BKb1.out.lt);replace HL:=hid (HL.out.trans (hb_.mono HL.out.size));clear hb_)
     |((with_reducible refine Qf (t:=75) (p:=8) rfl ?_);refine Qg Qs gb1 0 #[Ii 0,Ii 0,Ii 0] #[Ii t6,Ii t7,Ii t8] #[Ii t6,Ii t7,Ii t8] BKb1.out rfl (by simp) (by intro v_ hv_;simp at hv_;rcases hv_ with rfl|rfl|rfl <;> first|rfl) rfl rfl _ _ rfl rfl rfl ?_;intro w31 ho_ hB_;replace HL:=hid (ho_.below HL.out GEb1.out);replace BKb1:=hid hB_;clear ho_ hB_))
    (try simp only [Act.put,sI,sZ,sS])
    refine bodyPost_ret (v:=.agg #[Ii t6,Ii t7,Ii t8]) (Jz Qs rfl _ gb1 #[Ii t6,Ii t7,Ii t8] BKb1.out rfl rfl) rfl ?_
    exact ⟨by first|rfl|(simp;done)|(simp [*];done),HL.out⟩
   ·
    rw [if_neg c25] at H
    have c25b0:decide (a3<a2)=false:=decide_eq_false c25
    have hc25:=hid c25
    clear c25
    by_cases c32:a3>1000000
    ·
     rw [if_pos c32] at H
     have c32b0:decide (1000000<a3)=true:=decide_eq_true c32
     have hc32:=hid c32
     clear c32
     replace H:=Ia H
     obtain ⟨⟨t9,t10,t11⟩,A33_,H⟩:=H
     dsimp only at H
     have A33:=hid A33_
     clear A33_
     simp only [Option.some.injEq,Prod.mk.injEq] at H
     obtain ⟨rfl,rfl,rfl⟩:=H
     go_enter Tryz.func65,Tryz.ntmps65
     have k35:=True.intro
     have k36:=True.intro
     go_wp2_with (first
      |((with_reducible refine Qa (N:=8) rfl ?_);obtain ⟨gb1,hgb1⟩:∃ g_,w.heap.size=g_:=⟨_,rfl⟩;refine Qq Qs gb1 hgb1 rfl rfl ?_;intro w34 hb_ hB_ hs_;have GEb1:Hid (w.heap.size≤gb1):=hid (by have:=HL.out.size;omega);replace HL:=hid (HL.out.trans (hb_.mono GEb1.out));have BKb1:=hid hB_;clear hb_ hB_ hs_ hgb1)
      |(go_at_call 66;clear k35;refine (QD.c a0 a1 true _ A16.out).mono ?_;rintro e_ w' ⟨rfl,rfl⟩)
      |(go_at_call 67;clear k36;refine (QG.c t9 t10 t11 _ A33.out).mono ?_;rintro e_ w37 ⟨rfl,hb_⟩;replace BKb1:=hid (BKb1.out.below hb_ BKb1.out.lt);replace HL:=hid (HL.out.trans (hb_.mono HL.out.size));clear hb_)
      |((with_reducible refine Qf (t:=75) (p:=8) rfl ?_);refine Qg Qs gb1 0 #[Ii 0,Ii 0,Ii 0] #[Ii t9,Ii t10,Ii t11] #[Ii t9,Ii t10,Ii t11] BKb1.out rfl (by simp) (by intro v_ hv_;simp at hv_;rcases hv_ with rfl|rfl|rfl <;> first|rfl) rfl rfl _ _ rfl rfl rfl ?_;intro w38 ho_ hB_;replace HL:=hid (ho_.below HL.out GEb1.out);replace BKb1:=hid hB_;clear ho_ hB_))
     (try simp only [Act.put,sI,sZ,sS])
     refine bodyPost_ret (v:=.agg #[Ii t9,Ii t10,Ii t11]) (Jz Qs rfl _ gb1 #[Ii t9,Ii t10,Ii t11] BKb1.out rfl rfl) rfl ?_
     exact ⟨by first|rfl|(simp;done)|(simp [*];done),HL.out⟩
    ·
     rw [if_neg c32] at H
     have c32b0:decide (1000000<a3)=false:=decide_eq_false c32
     have hc32:=hid c32
     clear c32
     by_cases c39:0≤a1
     ·
      rw [if_pos c39] at H
      have c39b0:decide (0≤a1)=true:=decide_eq_true c39
      have hc39:=hid c39
      clear c39
      by_cases c40:a1≤(a0.size:Int)
      ·
       rw [if_pos c40] at H
       have c40b0:decide (a1≤(a0.size:Int))=true:=decide_eq_true c40
       have hc40:=hid c40
       clear c40
       have H':=hid H
       clear H
       go_enter Tryz.func65,Tryz.ntmps65
       have k42:=True.intro
       go_wp2_with (first
        |((with_reducible refine Qa (N:=8) rfl ?_);obtain ⟨gb1,hgb1⟩:∃ g_,w.heap.size=g_:=⟨_,rfl⟩;refine Qq Qs gb1 hgb1 rfl rfl ?_;intro w41 hb_ hB_ hs_;have GEb1:Hid (w.heap.size≤gb1):=hid (by have:=HL.out.size;omega);replace HL:=hid (HL.out.trans (hb_.mono GEb1.out));have BKb1:=hid hB_;clear hb_ hB_ hs_ hgb1)
        |(go_at_call 66;clear k42;refine (QD.c a0 a1 true _ A16.out).mono ?_;rintro e_ w' ⟨rfl,rfl⟩)
        |((with_reducible refine Qa (N:=36) rfl ?_);refine Qb (.string (a0.extract (a1:Int).toNat a0.size)) (Kn 9 JV a0 a1 hc39.out hc40.out _ _ rfl rfl rfl) rfl ?_)
        |((with_reducible refine Qa (N:=37) rfl ?_);obtain ⟨gb12,hgb12⟩:∃ g_,w41.heap.size=g_:=⟨_,rfl⟩;refine Vy (a0.extract (a1:Int).toNat a0.size) gb12 hgb12 JV rfl _ rfl rfl ?_;intro w43 hb_ hB_ hs_;have GEb12:Hid (w.heap.size≤gb12):=hid (by have:=HL.out.size;omega);have NBb1_b12:Hid (gb1≠gb12):=hid (by have:=BKb1.out.lt;omega);have NBb12_b1:Hid (gb12≠gb1):=hid (by have:=NBb1_b12.out;omega);replace BKb1:=hid (BKb1.out.below hb_ (by rw [← hgb12];exact BKb1.out.lt));replace HL:=hid (HL.out.trans (hb_.mono GEb12.out));have BKb12:=hid hB_;clear hb_ hB_ hs_ hgb12))
       (try simp only [Act.put,sI,sZ,sS])
       go_loopg [9,10] k (fun kq v9 v10 w'=>∃ (x9_0:Int) (x10_0:Int) (yb12_0_0:Nat),v9=Ii x9_0∧v10=Ii x10_0∧Hid (Qw.l0 kq a0 a1 a2 a3 x9_0 x10_0 yb12_0_0=some (r1,r2,r3))∧Hid (kq≤k)∧Hid (Blk w' gb1 75 #[Ii 0,Ii 0,Ii 0])∧Hid (Itr w' gb12 (a0.extract (a1:Int).toNat a0.size) yb12_0_0)∧Hid (Below w.heap.size w w'))
       case atStart=>exact ⟨(0:Int),(a0.size:Int),(0:Nat),(by first|rfl|(simp;done)|(simp [*];done)),(by first|rfl|(simp;done)|(simp [*];done)),H',(hid (by first|omega|(omega))),(hid (by exact BKb1.out)),(hid (by exact BKb12.out)),HL⟩
       case round=>
        clear H'
        clear HL BKb1 BKb12
        obtain ⟨x9_0,x10_0,yb12_0_0,rfl,rfl,HA,HK44,BKb1,BKb12,HL⟩:=hrel
        cases gk with
        |zero=>exact absurd HA.out (by simp [Qw.l0])
        |succ k45=>
         have H:=HA.out
         clear HA
         simp only [Qw.l0] at H
         by_cases c46:yb12_0_0<(a0.extract (a1:Int).toNat a0.size).size
         ·
          rw [if_pos c46] at H
          have c46b0:decide (yb12_0_0<(a0.extract (a1:Int).toNat a0.size).size)=true:=decide_eq_true c46
          have hc46:=hid c46
          clear c46
          by_cases c47:((Utf8.decode (a0.extract (a1:Int).toNat a0.size) yb12_0_0).1:Int)<48
          ·
           rw [if_pos c47] at H
           have c47b0:decide (((Utf8.decode (a0.extract (a1:Int).toNat a0.size) yb12_0_0).1:Int)<48)=true:=decide_eq_true c47
           have c47b1:decide ((Utf8.decode (a0.extract (a1:Int).toNat a0.size) yb12_0_0).1<48)=true:=decide_eq_true (by omega)
           have hc47:=hid c47
           clear c47
           by_cases c48:(wrap64 (a1+(yb12_0_0:Int)))>a1
           ·
            rw [if_pos c48] at H
            have c48b0:decide (a1<(wrap64 (a1+(yb12_0_0:Int))))=true:=decide_eq_true c48
            have hc48:=hid c48
            clear c48
            by_cases c49:x9_0≥a2
            ·
             rw [if_pos c49] at H
             have c49b0:decide (a2≤x9_0)=true:=decide_eq_true c49
             have hc49:=hid c49
             clear c49
             simp only [Option.some.injEq,Prod.mk.injEq] at H
             obtain ⟨rfl,rfl,rfl⟩:=H
             go_wp2_with (first
              |((with_reducible refine Qa (N:=38) rfl ?_);refine Qu (a0.extract (a1:Int).toNat a0.size) gb12 yb12_0_0 BKb12.out hc46.out rfl _ rfl rfl ?_;intro w50 ho_ hB_;replace BKb1:=hid (BKb1.out.off ho_ NBb1_b12.out);replace HL:=hid (ho_.below HL.out GEb12.out);replace BKb12:=hid hB_;clear ho_ hB_)
              |((with_reducible refine Qa (N:=99) rfl ?_);refine Qr (.agg #[Ii (wrap64 (a1+(yb12_0_0:Int))),Ii x9_0,Ii 0]) _ rfl rfl ?_ ?_;(intro ww_;simp only [List.map_toArray,List.map_cons,List.map_nil];kernel_rfl))
              |((with_reducible refine Qf (t:=75) (p:=8) rfl ?_);refine Qg Qs gb1 0 #[Ii 0,Ii 0,Ii 0] #[Ii (wrap64 (a1+(yb12_0_0:Int))),Ii x9_0,Ii 0] #[Ii (wrap64 (a1+(yb12_0_0:Int))),Ii x9_0,Ii 0] BKb1.out rfl (by simp) (by intro v_ hv_;simp at hv_;rcases hv_ with rfl|rfl|rfl <;> first|rfl) rfl rfl _ _ rfl rfl rfl ?_;intro w51 ho_ hB_;replace BKb12:=hid (BKb12.out.off ho_ NBb12_b1.out);replace HL:=hid (ho_.below HL.out GEb1.out);replace BKb1:=hid hB_;clear ho_ hB_))
             (try simp only [Act.put,sI,sZ,sS])
             refine bodyPost_ret (v:=.agg #[Ii (wrap64 (a1+(yb12_0_0:Int))),Ii x9_0,Ii 0]) (Jz Qs rfl _ gb1 #[Ii (wrap64 (a1+(yb12_0_0:Int))),Ii x9_0,Ii 0] BKb1.out rfl rfl) rfl ?_
             exact ⟨by first|rfl|(simp;done)|(simp [*];done),HL.out⟩
            ·
             rw [if_neg c49] at H
             have c49b0:decide (a2≤x9_0)=false:=decide_eq_false c49
             have hc49:=hid c49
             clear c49
             by_cases c52:(wrap64 (a1+(yb12_0_0:Int)))=(a0.size:Int)
             ·
              rw [if_pos c52] at H
              have c52b0:((wrap64 (a1+(yb12_0_0:Int)))==(a0.size:Int))=true:=beq_iff_eq.mpr c52
              have c52b1:((wrap64 (a1+(yb12_0_0:Int))) != (a0.size:Int))=false:=bne_eq_false_iff_eq.mpr c52
              have hc52:=hid c52
              clear c52
              simp only [Option.some.injEq,Prod.mk.injEq] at H
              obtain ⟨rfl,rfl,rfl⟩:=H
              go_wp2_with (first
               |((with_reducible refine Qa (N:=38) rfl ?_);refine Qu (a0.extract (a1:Int).toNat a0.size) gb12 yb12_0_0 BKb12.out hc46.out rfl _ rfl rfl ?_;intro w53 ho_ hB_;replace BKb1:=hid (BKb1.out.off ho_ NBb1_b12.out);replace HL:=hid (ho_.below HL.out GEb12.out);replace BKb12:=hid hB_;clear ho_ hB_)
               |((with_reducible refine Qa (N:=106) rfl ?_);refine Qr (.agg #[Ii (wrap64 (a1+(yb12_0_0:Int))),Ii 0,Ii 1]) _ rfl rfl ?_ ?_;(intro ww_;simp only [List.map_toArray,List.map_cons,List.map_nil];kernel_rfl))
               |((with_reducible refine Qf (t:=75) (p:=8) rfl ?_);refine Qg Qs gb1 0 #[Ii 0,Ii 0,Ii 0] #[Ii (wrap64 (a1+(yb12_0_0:Int))),Ii 0,Ii 1] #[Ii (wrap64 (a1+(yb12_0_0:Int))),Ii 0,Ii 1] BKb1.out rfl (by simp) (by intro v_ hv_;simp at hv_;rcases hv_ with rfl|rfl|rfl <;> first|rfl) rfl rfl _ _ rfl rfl rfl ?_;intro w54 ho_ hB_;replace BKb12:=hid (BKb12.out.off ho_ NBb12_b1.out);replace HL:=hid (ho_.below HL.out GEb1.out);replace BKb1:=hid hB_;clear ho_ hB_))
              (try simp only [Act.put,sI,sZ,sS])
              refine bodyPost_ret (v:=.agg #[Ii (wrap64 (a1+(yb12_0_0:Int))),Ii 0,Ii 1]) (Jz Qs rfl _ gb1 #[Ii (wrap64 (a1+(yb12_0_0:Int))),Ii 0,Ii 1] BKb1.out rfl rfl) rfl ?_
              exact ⟨by first|rfl|(simp;done)|(simp [*];done),HL.out⟩
             ·
              rw [if_neg c52] at H
              have c52b0:((wrap64 (a1+(yb12_0_0:Int)))==(a0.size:Int))=false:=beq_eq_false_iff_ne.mpr c52
              have c52b1:((wrap64 (a1+(yb12_0_0:Int))) != (a0.size:Int))=true:=bne_iff_ne.mpr c52
              have hc52:=hid c52
              clear c52
              simp only [Option.some.injEq,Prod.mk.injEq] at H
              obtain ⟨rfl,rfl,rfl⟩:=H
              go_wp2_with (first
               |((with_reducible refine Qa (N:=38) rfl ?_);refine Qu (a0.extract (a1:Int).toNat a0.size) gb12 yb12_0_0 BKb12.out hc46.out rfl _ rfl rfl ?_;intro w55 ho_ hB_;replace BKb1:=hid (BKb1.out.off ho_ NBb1_b12.out);replace HL:=hid (ho_.below HL.out GEb12.out);replace BKb12:=hid hB_;clear ho_ hB_)
               |((with_reducible refine Qa (N:=108) rfl ?_);refine Qr (.agg #[Ii (wrap64 (a1+(yb12_0_0:Int))),Ii 0,Ii 2]) _ rfl rfl ?_ ?_;(intro ww_;simp only [List.map_toArray,List.map_cons,List.map_nil];kernel_rfl))
               |((with_reducible refine Qf (t:=75) (p:=8) rfl ?_);refine Qg Qs gb1 0 #[Ii 0,Ii 0,Ii 0] #[Ii (wrap64 (a1+(yb12_0_0:Int))),Ii 0,Ii 2] #[Ii (wrap64 (a1+(yb12_0_0:Int))),Ii 0,Ii 2] BKb1.out rfl (by simp) (by intro v_ hv_;simp at hv_;rcases hv_ with rfl|rfl|rfl <;> first|rfl) rfl rfl _ _ rfl rfl rfl ?_;intro w56 ho_ hB_;replace BKb12:=hid (BKb12.out.off ho_ NBb12_b1.out);replace HL:=hid (ho_.below HL.out GEb1.out);replace BKb1:=hid hB_;clear ho_ hB_))
              (try simp only [Act.put,sI,sZ,sS])
              refine bodyPost_ret (v:=.agg #[Ii (wrap64 (a1+(yb12_0_0:Int))),Ii 0,Ii 2]) (Jz Qs rfl _ gb1 #[Ii (wrap64 (a1+(yb12_0_0:Int))),Ii 0,Ii 2] BKb1.out rfl rfl) rfl ?_
              exact ⟨by first|rfl|(simp;done)|(simp [*];done),HL.out⟩
           ·
            rw [if_neg c48] at H
            have c48b0:decide (a1<(wrap64 (a1+(yb12_0_0:Int))))=false:=decide_eq_false c48
            have hc48:=hid c48
            clear c48
            by_cases c57:(wrap64 (a1+(yb12_0_0:Int)))=(a0.size:Int)
            ·
             rw [if_pos c57] at H
             have c57b0:((wrap64 (a1+(yb12_0_0:Int)))==(a0.size:Int))=true:=beq_iff_eq.mpr c57
             have c57b1:((wrap64 (a1+(yb12_0_0:Int))) != (a0.size:Int))=false:=bne_eq_false_iff_eq.mpr c57
             have hc57:=hid c57
             clear c57
             simp only [Option.some.injEq,Prod.mk.injEq] at H
             obtain ⟨rfl,rfl,rfl⟩:=H
             go_wp2_with (first
              |((with_reducible refine Qa (N:=38) rfl ?_);refine Qu (a0.extract (a1:Int).toNat a0.size) gb12 yb12_0_0 BKb12.out hc46.out rfl _ rfl rfl ?_;intro w58 ho_ hB_;replace BKb1:=hid (BKb1.out.off ho_ NBb1_b12.out);replace HL:=hid (ho_.below HL.out GEb12.out);replace BKb12:=hid hB_;clear ho_ hB_)
              |((with_reducible refine Qa (N:=106) rfl ?_);refine Qr (.agg #[Ii (wrap64 (a1+(yb12_0_0:Int))),Ii 0,Ii 1]) _ rfl rfl ?_ ?_;(intro ww_;simp only [List.map_toArray,List.map_cons,List.map_nil];kernel_rfl))
              |((with_reducible refine Qf (t:=75) (p:=8) rfl ?_);refine Qg Qs gb1 0 #[Ii 0,Ii 0,Ii 0] #[Ii (wrap64 (a1+(yb12_0_0:Int))),Ii 0,Ii 1] #[Ii (wrap64 (a1+(yb12_0_0:Int))),Ii 0,Ii 1] BKb1.out rfl (by simp) (by intro v_ hv_;simp at hv_;rcases hv_ with rfl|rfl|rfl <;> first|rfl) rfl rfl _ _ rfl rfl rfl ?_;intro w59 ho_ hB_;replace BKb12:=hid (BKb12.out.off ho_ NBb12_b1.out);replace HL:=hid (ho_.below HL.out GEb1.out);replace BKb1:=hid hB_;clear ho_ hB_))
             (try simp only [Act.put,sI,sZ,sS])
             refine bodyPost_ret (v:=.agg #[Ii (wrap64 (a1+(yb12_0_0:Int))),Ii 0,Ii 1]) (Jz Qs rfl _ gb1 #[Ii (wrap64 (a1+(yb12_0_0:Int))),Ii 0,Ii 1] BKb1.out rfl rfl) rfl ?_
             exact ⟨by first|rfl|(simp;done)|(simp [*];done),HL.out⟩
            ·
             rw [if_neg c57] at H
             have c57b0:((wrap64 (a1+(yb12_0_0:Int)))==(a0.size:Int))=false:=beq_eq_false_iff_ne.mpr c57
             have c57b1:((wrap64 (a1+(yb12_0_0:Int))) != (a0.size:Int))=true:=bne_iff_ne.mpr c57
             have hc57:=hid c57
             clear c57
             simp only [Option.some.injEq,Prod.mk.injEq] at H
             obtain ⟨rfl,rfl,rfl⟩:=H
             go_wp2_with (first
              |((with_reducible refine Qa (N:=38) rfl ?_);refine Qu (a0.extract (a1:Int).toNat a0.size) gb12 yb12_0_0 BKb12.out hc46.out rfl _ rfl rfl ?_;intro w60 ho_ hB_;replace BKb1:=hid (BKb1.out.off ho_ NBb1_b12.out);replace HL:=hid (ho_.below HL.out GEb12.out);replace BKb12:=hid hB_;clear ho_ hB_)
              |((with_reducible refine Qa (N:=108) rfl ?_);refine Qr (.agg #[Ii (wrap64 (a1+(yb12_0_0:Int))),Ii 0,Ii 2]) _ rfl rfl ?_ ?_;(intro ww_;simp only [List.map_toArray,List.map_cons,List.map_nil];kernel_rfl))
              |((with_reducible refine Qf (t:=75) (p:=8) rfl ?_);refine Qg Qs gb1 0 #[Ii 0,Ii 0,Ii 0] #[Ii (wrap64 (a1+(yb12_0_0:Int))),Ii 0,Ii 2] #[Ii (wrap64 (a1+(yb12_0_0:Int))),Ii 0,Ii 2] BKb1.out rfl (by simp) (by intro v_ hv_;simp at hv_;rcases hv_ with rfl|rfl|rfl <;> first|rfl) rfl rfl _ _ rfl rfl rfl ?_;intro w61 ho_ hB_;replace BKb12:=hid (BKb12.out.off ho_ NBb12_b1.out);replace HL:=hid (ho_.below HL.out GEb1.out);replace BKb1:=hid hB_;clear ho_ hB_))
             (try simp only [Act.put,sI,sZ,sS])
             refine bodyPost_ret (v:=.agg #[Ii (wrap64 (a1+(yb12_0_0:Int))),Ii 0,Ii 2]) (Jz Qs rfl _ gb1 #[Ii (wrap64 (a1+(yb12_0_0:Int))),Ii 0,Ii 2] BKb1.out rfl rfl) rfl ?_
             exact ⟨by first|rfl|(simp;done)|(simp [*];done),HL.out⟩
          ·
           rw [if_neg c47] at H
           have c47b0:decide (((Utf8.decode (a0.extract (a1:Int).toNat a0.size) yb12_0_0).1:Int)<48)=false:=decide_eq_false c47
           have c47b1:decide ((Utf8.decode (a0.extract (a1:Int).toNat a0.size) yb12_0_0).1<48)=false:=decide_eq_false (by omega)
           have hc47:=hid c47
           clear c47
           by_cases c62:((Utf8.decode (a0.extract (a1:Int).toNat a0.size) yb12_0_0).1:Int)>57
           ·
            rw [if_pos c62] at H
            have c62b0:decide (57<((Utf8.decode (a0.extract (a1:Int).toNat a0.size) yb12_0_0).1:Int))=true:=decide_eq_true c62
            have c62b1:decide (57<(Utf8.decode (a0.extract (a1:Int).toNat a0.size) yb12_0_0).1)=true:=decide_eq_true (by omega)
            have hc62:=hid c62
            clear c62
            by_cases c63:(wrap64 (a1+(yb12_0_0:Int)))>a1
            ·
             rw [if_pos c63] at H
             have c63b0:decide (a1<(wrap64 (a1+(yb12_0_0:Int))))=true:=decide_eq_true c63
             have hc63:=hid c63
             clear c63
             by_cases c64:x9_0≥a2
             ·
              rw [if_pos c64] at H
              have c64b0:decide (a2≤x9_0)=true:=decide_eq_true c64
              have hc64:=hid c64
              clear c64
              simp only [Option.some.injEq,Prod.mk.injEq] at H
              obtain ⟨rfl,rfl,rfl⟩:=H
              go_wp2_with (first
               |((with_reducible refine Qa (N:=38) rfl ?_);refine Qu (a0.extract (a1:Int).toNat a0.size) gb12 yb12_0_0 BKb12.out hc46.out rfl _ rfl rfl ?_;intro w65 ho_ hB_;replace BKb1:=hid (BKb1.out.off ho_ NBb1_b12.out);replace HL:=hid (ho_.below HL.out GEb12.out);replace BKb12:=hid hB_;clear ho_ hB_)
               |((with_reducible refine Qa (N:=99) rfl ?_);refine Qr (.agg #[Ii (wrap64 (a1+(yb12_0_0:Int))),Ii x9_0,Ii 0]) _ rfl rfl ?_ ?_;(intro ww_;simp only [List.map_toArray,List.map_cons,List.map_nil];kernel_rfl))
               |((with_reducible refine Qf (t:=75) (p:=8) rfl ?_);refine Qg Qs gb1 0 #[Ii 0,Ii 0,Ii 0] #[Ii (wrap64 (a1+(yb12_0_0:Int))),Ii x9_0,Ii 0] #[Ii (wrap64 (a1+(yb12_0_0:Int))),Ii x9_0,Ii 0] BKb1.out rfl (by simp) (by intro v_ hv_;simp at hv_;rcases hv_ with rfl|rfl|rfl <;> first|rfl) rfl rfl _ _ rfl rfl rfl ?_;intro w66 ho_ hB_;replace BKb12:=hid (BKb12.out.off ho_ NBb12_b1.out);replace HL:=hid (ho_.below HL.out GEb1.out);replace BKb1:=hid hB_;clear ho_ hB_))
              (try simp only [Act.put,sI,sZ,sS])
              refine bodyPost_ret (v:=.agg #[Ii (wrap64 (a1+(yb12_0_0:Int))),Ii x9_0,Ii 0]) (Jz Qs rfl _ gb1 #[Ii (wrap64 (a1+(yb12_0_0:Int))),Ii x9_0,Ii 0] BKb1.out rfl rfl) rfl ?_
              exact ⟨by first|rfl|(simp;done)|(simp [*];done),HL.out⟩
             ·
              rw [if_neg c64] at H
              have c64b0:decide (a2≤x9_0)=false:=decide_eq_false c64
              have hc64:=hid c64
              clear c64
              by_cases c67:(wrap64 (a1+(yb12_0_0:Int)))=(a0.size:Int)
              ·
               rw [if_pos c67] at H
               have c67b0:((wrap64 (a1+(yb12_0_0:Int)))==(a0.size:Int))=true:=beq_iff_eq.mpr c67
               have c67b1:((wrap64 (a1+(yb12_0_0:Int))) != (a0.size:Int))=false:=bne_eq_false_iff_eq.mpr c67
               have hc67:=hid c67
               clear c67
               simp only [Option.some.injEq,Prod.mk.injEq] at H
               obtain ⟨rfl,rfl,rfl⟩:=H
               go_wp2_with (first
                |((with_reducible refine Qa (N:=38) rfl ?_);refine Qu (a0.extract (a1:Int).toNat a0.size) gb12 yb12_0_0 BKb12.out hc46.out rfl _ rfl rfl ?_;intro w68 ho_ hB_;replace BKb1:=hid (BKb1.out.off ho_ NBb1_b12.out);replace HL:=hid (ho_.below HL.out GEb12.out);replace BKb12:=hid hB_;clear ho_ hB_)
                |((with_reducible refine Qa (N:=106) rfl ?_);refine Qr (.agg #[Ii (wrap64 (a1+(yb12_0_0:Int))),Ii 0,Ii 1]) _ rfl rfl ?_ ?_;(intro ww_;simp only [List.map_toArray,List.map_cons,List.map_nil];kernel_rfl))
                |((with_reducible refine Qf (t:=75) (p:=8) rfl ?_);refine Qg Qs gb1 0 #[Ii 0,Ii 0,Ii 0] #[Ii (wrap64 (a1+(yb12_0_0:Int))),Ii 0,Ii 1] #[Ii (wrap64 (a1+(yb12_0_0:Int))),Ii 0,Ii 1] BKb1.out rfl (by simp) (by intro v_ hv_;simp at hv_;rcases hv_ with rfl|rfl|rfl <;> first|rfl) rfl rfl _ _ rfl rfl rfl ?_;intro w69 ho_ hB_;replace BKb12:=hid (BKb12.out.off ho_ NBb12_b1.out);replace HL:=hid (ho_.below HL.out GEb1.out);replace BKb1:=hid hB_;clear ho_ hB_))
               (try simp only [Act.put,sI,sZ,sS])
               refine bodyPost_ret (v:=.agg #[Ii (wrap64 (a1+(yb12_0_0:Int))),Ii 0,Ii 1]) (Jz Qs rfl _ gb1 #[Ii (wrap64 (a1+(yb12_0_0:Int))),Ii 0,Ii 1] BKb1.out rfl rfl) rfl ?_
               exact ⟨by first|rfl|(simp;done)|(simp [*];done),HL.out⟩
              ·
               rw [if_neg c67] at H
               have c67b0:((wrap64 (a1+(yb12_0_0:Int)))==(a0.size:Int))=false:=beq_eq_false_iff_ne.mpr c67
               have c67b1:((wrap64 (a1+(yb12_0_0:Int))) != (a0.size:Int))=true:=bne_iff_ne.mpr c67
               have hc67:=hid c67
               clear c67
               simp only [Option.some.injEq,Prod.mk.injEq] at H
               obtain ⟨rfl,rfl,rfl⟩:=H
               go_wp2_with (first
                |((with_reducible refine Qa (N:=38) rfl ?_);refine Qu (a0.extract (a1:Int).toNat a0.size) gb12 yb12_0_0 BKb12.out hc46.out rfl _ rfl rfl ?_;intro w70 ho_ hB_;replace BKb1:=hid (BKb1.out.off ho_ NBb1_b12.out);replace HL:=hid (ho_.below HL.out GEb12.out);replace BKb12:=hid hB_;clear ho_ hB_)
                |((with_reducible refine Qa (N:=108) rfl ?_);refine Qr (.agg #[Ii (wrap64 (a1+(yb12_0_0:Int))),Ii 0,Ii 2]) _ rfl rfl ?_ ?_;(intro ww_;simp only [List.map_toArray,List.map_cons,List.map_nil];kernel_rfl))
                |((with_reducible refine Qf (t:=75) (p:=8) rfl ?_);refine Qg Qs gb1 0 #[Ii 0,Ii 0,Ii 0] #[Ii (wrap64 (a1+(yb12_0_0:Int))),Ii 0,Ii 2] #[Ii (wrap64 (a1+(yb12_0_0:Int))),Ii 0,Ii 2] BKb1.out rfl (by simp) (by intro v_ hv_;simp at hv_;rcases hv_ with rfl|rfl|rfl <;> first|rfl) rfl rfl _ _ rfl rfl rfl ?_;intro w71 ho_ hB_;replace BKb12:=hid (BKb12.out.off ho_ NBb12_b1.out);replace HL:=hid (ho_.below HL.out GEb1.out);replace BKb1:=hid hB_;clear ho_ hB_))
               (try simp only [Act.put,sI,sZ,sS])
               refine bodyPost_ret (v:=.agg #[Ii (wrap64 (a1+(yb12_0_0:Int))),Ii 0,Ii 2]) (Jz Qs rfl _ gb1 #[Ii (wrap64 (a1+(yb12_0_0:Int))),Ii 0,Ii 2] BKb1.out rfl rfl) rfl ?_
               exact ⟨by first|rfl|(simp;done)|(simp [*];done),HL.out⟩
            ·
             rw [if_neg c63] at H
             have c63b0:decide (a1<(wrap64 (a1+(yb12_0_0:Int))))=false:=decide_eq_false c63
             have hc63:=hid c63
             clear c63
             by_cases c72:(wrap64 (a1+(yb12_0_0:Int)))=(a0.size:Int)
             ·
              rw [if_pos c72] at H
              have c72b0:((wrap64 (a1+(yb12_0_0:Int)))==(a0.size:Int))=true:=beq_iff_eq.mpr c72
              have c72b1:((wrap64 (a1+(yb12_0_0:Int))) != (a0.size:Int))=false:=bne_eq_false_iff_eq.mpr c72
              have hc72:=hid c72
              clear c72
              simp only [Option.some.injEq,Prod.mk.injEq] at H
              obtain ⟨rfl,rfl,rfl⟩:=H
              go_wp2_with (first
               |((with_reducible refine Qa (N:=38) rfl ?_);refine Qu (a0.extract (a1:Int).toNat a0.size) gb12 yb12_0_0 BKb12.out hc46.out rfl _ rfl rfl ?_;intro w73 ho_ hB_;replace BKb1:=hid (BKb1.out.off ho_ NBb1_b12.out);replace HL:=hid (ho_.below HL.out GEb12.out);replace BKb12:=hid hB_;clear ho_ hB_)
               |((with_reducible refine Qa (N:=106) rfl ?_);refine Qr (.agg #[Ii (wrap64 (a1+(yb12_0_0:Int))),Ii 0,Ii 1]) _ rfl rfl ?_ ?_;(intro ww_;simp only [List.map_toArray,List.map_cons,List.map_nil];kernel_rfl))
               |((with_reducible refine Qf (t:=75) (p:=8) rfl ?_);refine Qg Qs gb1 0 #[Ii 0,Ii 0,Ii 0] #[Ii (wrap64 (a1+(yb12_0_0:Int))),Ii 0,Ii 1] #[Ii (wrap64 (a1+(yb12_0_0:Int))),Ii 0,Ii 1] BKb1.out rfl (by simp) (by intro v_ hv_;simp at hv_;rcases hv_ with rfl|rfl|rfl <;> first|rfl) rfl rfl _ _ rfl rfl rfl ?_;intro w74 ho_ hB_;replace BKb12:=hid (BKb12.out.off ho_ NBb12_b1.out);replace HL:=hid (ho_.below HL.out GEb1.out);replace BKb1:=hid hB_;clear ho_ hB_))
              (try simp only [Act.put,sI,sZ,sS])
              refine bodyPost_ret (v:=.agg #[Ii (wrap64 (a1+(yb12_0_0:Int))),Ii 0,Ii 1]) (Jz Qs rfl _ gb1 #[Ii (wrap64 (a1+(yb12_0_0:Int))),Ii 0,Ii 1] BKb1.out rfl rfl) rfl ?_
              exact ⟨by first|rfl|(simp;done)|(simp [*];done),HL.out⟩
             ·
              rw [if_neg c72] at H
              have c72b0:((wrap64 (a1+(yb12_0_0:Int)))==(a0.size:Int))=false:=beq_eq_false_iff_ne.mpr c72
              have c72b1:((wrap64 (a1+(yb12_0_0:Int))) != (a0.size:Int))=true:=bne_iff_ne.mpr c72
              have hc72:=hid c72
              clear c72
              simp only [Option.some.injEq,Prod.mk.injEq] at H
              obtain ⟨rfl,rfl,rfl⟩:=H
              go_wp2_with (first
               |((with_reducible refine Qa (N:=38) rfl ?_);refine Qu (a0.extract (a1:Int).toNat a0.size) gb12 yb12_0_0 BKb12.out hc46.out rfl _ rfl rfl ?_;intro w75 ho_ hB_;replace BKb1:=hid (BKb1.out.off ho_ NBb1_b12.out);replace HL:=hid (ho_.below HL.out GEb12.out);replace BKb12:=hid hB_;clear ho_ hB_)
               |((with_reducible refine Qa (N:=108) rfl ?_);refine Qr (.agg #[Ii (wrap64 (a1+(yb12_0_0:Int))),Ii 0,Ii 2]) _ rfl rfl ?_ ?_;(intro ww_;simp only [List.map_toArray,List.map_cons,List.map_nil];kernel_rfl))
               |((with_reducible refine Qf (t:=75) (p:=8) rfl ?_);refine Qg Qs gb1 0 #[Ii 0,Ii 0,Ii 0] #[Ii (wrap64 (a1+(yb12_0_0:Int))),Ii 0,Ii 2] #[Ii (wrap64 (a1+(yb12_0_0:Int))),Ii 0,Ii 2] BKb1.out rfl (by simp) (by intro v_ hv_;simp at hv_;rcases hv_ with rfl|rfl|rfl <;> first|rfl) rfl rfl _ _ rfl rfl rfl ?_;intro w76 ho_ hB_;replace BKb12:=hid (BKb12.out.off ho_ NBb12_b1.out);replace HL:=hid (ho_.below HL.out GEb1.out);replace BKb1:=hid hB_;clear ho_ hB_))
              (try simp only [Act.put,sI,sZ,sS])
              refine bodyPost_ret (v:=.agg #[Ii (wrap64 (a1+(yb12_0_0:Int))),Ii 0,Ii 2]) (Jz Qs rfl _ gb1 #[Ii (wrap64 (a1+(yb12_0_0:Int))),Ii 0,Ii 2] BKb1.out rfl rfl) rfl ?_
              exact ⟨by first|rfl|(simp;done)|(simp [*];done),HL.out⟩
           ·
            rw [if_neg c62] at H
            have c62b0:decide (57<((Utf8.decode (a0.extract (a1:Int).toNat a0.size) yb12_0_0).1:Int))=false:=decide_eq_false c62
            have c62b1:decide (57<(Utf8.decode (a0.extract (a1:Int).toNat a0.size) yb12_0_0).1)=false:=decide_eq_false (by omega)
            have hc62:=hid c62
            clear c62
            by_cases c77:(yb12_0_0:Int)>0
            ·
             rw [if_pos c77] at H
             have c77b0:decide (0<(yb12_0_0:Int))=true:=decide_eq_true c77
             have c77b1:decide (0<yb12_0_0)=true:=decide_eq_true (by omega)
             have hc77:=hid c77
             clear c77
             by_cases c78:x9_0=0
             ·
              rw [if_pos c78] at H
              have c78b0:(x9_0==0)=true:=beq_iff_eq.mpr c78
              have c78b1:(x9_0 != 0)=false:=bne_eq_false_iff_eq.mpr c78
              have hc78:=hid c78
              clear c78
              simp only [Option.some.injEq,Prod.mk.injEq] at H
              obtain ⟨rfl,rfl,rfl⟩:=H
              go_wp2_with (first
               |((with_reducible refine Qa (N:=38) rfl ?_);refine Qu (a0.extract (a1:Int).toNat a0.size) gb12 yb12_0_0 BKb12.out hc46.out rfl _ rfl rfl ?_;intro w79 ho_ hB_;replace BKb1:=hid (BKb1.out.off ho_ NBb1_b12.out);replace HL:=hid (ho_.below HL.out GEb12.out);replace BKb12:=hid hB_;clear ho_ hB_)
               |((with_reducible refine Qa (N:=81) rfl ?_);refine Qr (.agg #[Ii (wrap64 (a1+(yb12_0_0:Int))),Ii 0,Ii 2]) _ rfl rfl ?_ ?_;(intro ww_;simp only [List.map_toArray,List.map_cons,List.map_nil];kernel_rfl))
               |((with_reducible refine Qf (t:=75) (p:=8) rfl ?_);refine Qg Qs gb1 0 #[Ii 0,Ii 0,Ii 0] #[Ii (wrap64 (a1+(yb12_0_0:Int))),Ii 0,Ii 2] #[Ii (wrap64 (a1+(yb12_0_0:Int))),Ii 0,Ii 2] BKb1.out rfl (by simp) (by intro v_ hv_;simp at hv_;rcases hv_ with rfl|rfl|rfl <;> first|rfl) rfl rfl _ _ rfl rfl rfl ?_;intro w80 ho_ hB_;replace BKb12:=hid (BKb12.out.off ho_ NBb12_b1.out);replace HL:=hid (ho_.below HL.out GEb1.out);replace BKb1:=hid hB_;clear ho_ hB_))
              (try simp only [Act.put,sI,sZ,sS])
              refine bodyPost_ret (v:=.agg #[Ii (wrap64 (a1+(yb12_0_0:Int))),Ii 0,Ii 2]) (Jz Qs rfl _ gb1 #[Ii (wrap64 (a1+(yb12_0_0:Int))),Ii 0,Ii 2] BKb1.out rfl rfl) rfl ?_
              exact ⟨by first|rfl|(simp;done)|(simp [*];done),HL.out⟩
             ·
              rw [if_neg c78] at H
              have c78b0:(x9_0==0)=false:=beq_eq_false_iff_ne.mpr c78
              have c78b1:(x9_0 != 0)=true:=bne_iff_ne.mpr c78
              have hc78:=hid c78
              clear c78
              by_cases c81:(yb12_0_0:Int)=0
              ·
               rw [if_pos c81] at H
               exfalso
               clear H
               have:=hc77.out;omega
              ·
               rw [if_neg c81] at H
               have c81b0:((yb12_0_0:Int)==0)=false:=beq_eq_false_iff_ne.mpr c81
               have c81b1:((yb12_0_0:Int) != 0)=true:=bne_iff_ne.mpr c81
               have c81b2:(yb12_0_0==0)=false:=by first|simpa using c81|(simp at c81 ⊢;omega)
               have c81b3:(yb12_0_0 != 0)=true:=by first|simpa using c81|(simp at c81 ⊢;omega)
               have hc81:=hid c81
               clear c81
               by_cases c82:(wrap64 ((wrap64 (10*x9_0))+(wrap64 (wrap32 (((Utf8.decode (a0.extract (a1:Int).toNat a0.size) yb12_0_0).1:Int)-48)))))>a3
               ·
                rw [if_pos c82] at H
                have c82b0:decide (a3<(wrap64 ((wrap64 (10*x9_0))+(wrap64 (wrap32 (((Utf8.decode (a0.extract (a1:Int).toNat a0.size) yb12_0_0).1:Int)-48))))))=true:=decide_eq_true c82
                have hc82:=hid c82
                clear c82
                simp only [Option.some.injEq,Prod.mk.injEq] at H
                obtain ⟨rfl,rfl,rfl⟩:=H
                go_wp2_with (first
                 |((with_reducible refine Qa (N:=38) rfl ?_);refine Qu (a0.extract (a1:Int).toNat a0.size) gb12 yb12_0_0 BKb12.out hc46.out rfl _ rfl rfl ?_;intro w83 ho_ hB_;replace BKb1:=hid (BKb1.out.off ho_ NBb1_b12.out);replace HL:=hid (ho_.below HL.out GEb12.out);replace BKb12:=hid hB_;clear ho_ hB_)
                 |((with_reducible refine Qa (N:=81) rfl ?_);refine Qr (.agg #[Ii (wrap64 (a1+(yb12_0_0:Int))),Ii 0,Ii 2]) _ rfl rfl ?_ ?_;(intro ww_;simp only [List.map_toArray,List.map_cons,List.map_nil];kernel_rfl))
                 |((with_reducible refine Qf (t:=75) (p:=8) rfl ?_);refine Qg Qs gb1 0 #[Ii 0,Ii 0,Ii 0] #[Ii (wrap64 (a1+(yb12_0_0:Int))),Ii 0,Ii 2] #[Ii (wrap64 (a1+(yb12_0_0:Int))),Ii 0,Ii 2] BKb1.out rfl (by simp) (by intro v_ hv_;simp at hv_;rcases hv_ with rfl|rfl|rfl <;> first|rfl) rfl rfl _ _ rfl rfl rfl ?_;intro w84 ho_ hB_;replace BKb12:=hid (BKb12.out.off ho_ NBb12_b1.out);replace HL:=hid (ho_.below HL.out GEb1.out);replace BKb1:=hid hB_;clear ho_ hB_))
                (try simp only [Act.put,sI,sZ,sS])
                refine bodyPost_ret (v:=.agg #[Ii (wrap64 (a1+(yb12_0_0:Int))),Ii 0,Ii 2]) (Jz Qs rfl _ gb1 #[Ii (wrap64 (a1+(yb12_0_0:Int))),Ii 0,Ii 2] BKb1.out rfl rfl) rfl ?_
                exact ⟨by first|rfl|(simp;done)|(simp [*];done),HL.out⟩
               ·
                rw [if_neg c82] at H
                have c82b0:decide (a3<(wrap64 ((wrap64 (10*x9_0))+(wrap64 (wrap32 (((Utf8.decode (a0.extract (a1:Int).toNat a0.size) yb12_0_0).1:Int)-48))))))=false:=decide_eq_false c82
                have hc82:=hid c82
                clear c82
                have H':=hid H
                clear H
                go_wp2_with (first
                 |((with_reducible refine Qa (N:=38) rfl ?_);refine Qu (a0.extract (a1:Int).toNat a0.size) gb12 yb12_0_0 BKb12.out hc46.out rfl _ rfl rfl ?_;intro w85 ho_ hB_;replace BKb1:=hid (BKb1.out.off ho_ NBb1_b12.out);replace HL:=hid (ho_.below HL.out GEb12.out);replace BKb12:=hid hB_;clear ho_ hB_))
                (try simp only [Act.put,sI,sZ,sS])
                go_roundg k45
                case measure=>have:=HK44.out;omega
                case rel=>exact ⟨wrap64 ((wrap64 (10*x9_0))+(wrap64 (wrap32 (((Utf8.decode (a0.extract (a1:Int).toNat a0.size) yb12_0_0).1:Int)-48)))),x10_0,(yb12_0_0+(Utf8.decode (a0.extract (a1:Int).toNat a0.size) yb12_0_0).2),(by first|rfl|(simp;done)|(simp [*];done)),(by first|rfl|(simp;done)|(simp [*];done)),H',(hid (by first|omega|(have:=HK44.out;omega))),(hid (by exact BKb1.out)),(hid (by exact BKb12.out)),HL⟩
            ·
             rw [if_neg c77] at H
             have c77b0:decide (0<(yb12_0_0:Int))=false:=decide_eq_false c77
             have c77b1:decide (0<yb12_0_0)=false:=decide_eq_false (by omega)
             have hc77:=hid c77
             clear c77
             by_cases c86:(yb12_0_0:Int)=0
             ·
              rw [if_pos c86] at H
              have c86b0:((yb12_0_0:Int)==0)=true:=beq_iff_eq.mpr c86
              have c86b1:((yb12_0_0:Int) != 0)=false:=bne_eq_false_iff_eq.mpr c86
              have c86b2:(yb12_0_0==0)=true:=by first|simpa using c86|(simp at c86 ⊢;omega)
              have c86b3:(yb12_0_0 != 0)=false:=by first|simpa using c86|(simp at c86 ⊢;omega)
              have hc86:=hid c86
              clear c86
              by_cases c87:1<a2
              ·
               rw [if_pos c87] at H
               have c87b0:decide (1<a2)=true:=decide_eq_true c87
               have c87b1:(if 1<a2 then 1 else a2)=1:=if_pos c87
               have c87b2:min a2 1=1:=by omega
               have hc87:=hid c87
               clear c87
               by_cases c88:(wrap64 ((wrap64 (10*x9_0))+(wrap64 (wrap32 (((Utf8.decode (a0.extract (a1:Int).toNat a0.size) yb12_0_0).1:Int)-48)))))<1
               ·
                rw [if_pos c88] at H
                have c88b0:decide ((wrap64 ((wrap64 (10*x9_0))+(wrap64 (wrap32 (((Utf8.decode (a0.extract (a1:Int).toNat a0.size) yb12_0_0).1:Int)-48)))))<1)=true:=decide_eq_true c88
                have hc88:=hid c88
                clear c88
                simp only [Option.some.injEq,Prod.mk.injEq] at H
                obtain ⟨rfl,rfl,rfl⟩:=H
                go_wp2_with (first
                 |((with_reducible refine Qa (N:=38) rfl ?_);refine Qu (a0.extract (a1:Int).toNat a0.size) gb12 yb12_0_0 BKb12.out hc46.out rfl _ rfl rfl ?_;intro w89 ho_ hB_;replace BKb1:=hid (BKb1.out.off ho_ NBb1_b12.out);replace HL:=hid (ho_.below HL.out GEb12.out);replace BKb12:=hid hB_;clear ho_ hB_)
                 |((with_reducible refine Qa (N:=81) rfl ?_);refine Qr (.agg #[Ii (wrap64 (a1+(yb12_0_0:Int))),Ii 0,Ii 2]) _ rfl rfl ?_ ?_;(intro ww_;simp only [List.map_toArray,List.map_cons,List.map_nil];kernel_rfl))
                 |((with_reducible refine Qf (t:=75) (p:=8) rfl ?_);refine Qg Qs gb1 0 #[Ii 0,Ii 0,Ii 0] #[Ii (wrap64 (a1+(yb12_0_0:Int))),Ii 0,Ii 2] #[Ii (wrap64 (a1+(yb12_0_0:Int))),Ii 0,Ii 2] BKb1.out rfl (by simp) (by intro v_ hv_;simp at hv_;rcases hv_ with rfl|rfl|rfl <;> first|rfl) rfl rfl _ _ rfl rfl rfl ?_;intro w90 ho_ hB_;replace BKb12:=hid (BKb12.out.off ho_ NBb12_b1.out);replace HL:=hid (ho_.below HL.out GEb1.out);replace BKb1:=hid hB_;clear ho_ hB_))
                (try simp only [Act.put,sI,sZ,sS])
                refine bodyPost_ret (v:=.agg #[Ii (wrap64 (a1+(yb12_0_0:Int))),Ii 0,Ii 2]) (Jz Qs rfl _ gb1 #[Ii (wrap64 (a1+(yb12_0_0:Int))),Ii 0,Ii 2] BKb1.out rfl rfl) rfl ?_
                exact ⟨by first|rfl|(simp;done)|(simp [*];done),HL.out⟩
               ·
                rw [if_neg c88] at H
                have c88b0:decide ((wrap64 ((wrap64 (10*x9_0))+(wrap64 (wrap32 (((Utf8.decode (a0.extract (a1:Int).toNat a0.size) yb12_0_0).1:Int)-48)))))<1)=false:=decide_eq_false c88
                have hc88:=hid c88
                clear c88
                by_cases c91:(wrap64 ((wrap64 (10*x9_0))+(wrap64 (wrap32 (((Utf8.decode (a0.extract (a1:Int).toNat a0.size) yb12_0_0).1:Int)-48)))))>a3
                ·
                 rw [if_pos c91] at H
                 have c91b0:decide (a3<(wrap64 ((wrap64 (10*x9_0))+(wrap64 (wrap32 (((Utf8.decode (a0.extract (a1:Int).toNat a0.size) yb12_0_0).1:Int)-48))))))=true:=decide_eq_true c91
                 have hc91:=hid c91
                 clear c91
                 simp only [Option.some.injEq,Prod.mk.injEq] at H
                 obtain ⟨rfl,rfl,rfl⟩:=H
                 go_wp2_with (first
                  |((with_reducible refine Qa (N:=38) rfl ?_);refine Qu (a0.extract (a1:Int).toNat a0.size) gb12 yb12_0_0 BKb12.out hc46.out rfl _ rfl rfl ?_;intro w92 ho_ hB_;replace BKb1:=hid (BKb1.out.off ho_ NBb1_b12.out);replace HL:=hid (ho_.below HL.out GEb12.out);replace BKb12:=hid hB_;clear ho_ hB_)
                  |((with_reducible refine Qa (N:=81) rfl ?_);refine Qr (.agg #[Ii (wrap64 (a1+(yb12_0_0:Int))),Ii 0,Ii 2]) _ rfl rfl ?_ ?_;(intro ww_;simp only [List.map_toArray,List.map_cons,List.map_nil];kernel_rfl))
                  |((with_reducible refine Qf (t:=75) (p:=8) rfl ?_);refine Qg Qs gb1 0 #[Ii 0,Ii 0,Ii 0] #[Ii (wrap64 (a1+(yb12_0_0:Int))),Ii 0,Ii 2] #[Ii (wrap64 (a1+(yb12_0_0:Int))),Ii 0,Ii 2] BKb1.out rfl (by simp) (by intro v_ hv_;simp at hv_;rcases hv_ with rfl|rfl|rfl <;> first|rfl) rfl rfl _ _ rfl rfl rfl ?_;intro w93 ho_ hB_;replace BKb12:=hid (BKb12.out.off ho_ NBb12_b1.out);replace HL:=hid (ho_.below HL.out GEb1.out);replace BKb1:=hid hB_;clear ho_ hB_))
                 (try simp only [Act.put,sI,sZ,sS])
                 refine bodyPost_ret (v:=.agg #[Ii (wrap64 (a1+(yb12_0_0:Int))),Ii 0,Ii 2]) (Jz Qs rfl _ gb1 #[Ii (wrap64 (a1+(yb12_0_0:Int))),Ii 0,Ii 2] BKb1.out rfl rfl) rfl ?_
                 exact ⟨by first|rfl|(simp;done)|(simp [*];done),HL.out⟩
                ·
                 rw [if_neg c91] at H
                 have c91b0:decide (a3<(wrap64 ((wrap64 (10*x9_0))+(wrap64 (wrap32 (((Utf8.decode (a0.extract (a1:Int).toNat a0.size) yb12_0_0).1:Int)-48))))))=false:=decide_eq_false c91
                 have hc91:=hid c91
                 clear c91
                 have H':=hid H
                 clear H
                 go_wp2_with (first
                  |((with_reducible refine Qa (N:=38) rfl ?_);refine Qu (a0.extract (a1:Int).toNat a0.size) gb12 yb12_0_0 BKb12.out hc46.out rfl _ rfl rfl ?_;intro w94 ho_ hB_;replace BKb1:=hid (BKb1.out.off ho_ NBb1_b12.out);replace HL:=hid (ho_.below HL.out GEb12.out);replace BKb12:=hid hB_;clear ho_ hB_))
                 (try simp only [Act.put,sI,sZ,sS])
                 go_roundg k45
                 case measure=>have:=HK44.out;omega
                 case rel=>exact ⟨wrap64 ((wrap64 (10*x9_0))+(wrap64 (wrap32 (((Utf8.decode (a0.extract (a1:Int).toNat a0.size) yb12_0_0).1:Int)-48)))),x10_0,(yb12_0_0+(Utf8.decode (a0.extract (a1:Int).toNat a0.size) yb12_0_0).2),(by first|rfl|(simp;done)|(simp [*];done)),(by first|rfl|(simp;done)|(simp [*];done)),H',(hid (by first|omega|(have:=HK44.out;omega))),(hid (by exact BKb1.out)),(hid (by exact BKb12.out)),HL⟩
              ·
               rw [if_neg c87] at H
               have c87b0:decide (1<a2)=false:=decide_eq_false c87
               have c87b1:(if 1<a2 then 1 else a2)=a2:=if_neg c87
               have c87b2:min a2 1=a2:=by omega
               have hc87:=hid c87
               clear c87
               by_cases c95:(wrap64 ((wrap64 (10*x9_0))+(wrap64 (wrap32 (((Utf8.decode (a0.extract (a1:Int).toNat a0.size) yb12_0_0).1:Int)-48)))))<a2
               ·
                rw [if_pos c95] at H
                have c95b0:decide ((wrap64 ((wrap64 (10*x9_0))+(wrap64 (wrap32 (((Utf8.decode (a0.extract (a1:Int).toNat a0.size) yb12_0_0).1:Int)-48)))))<a2)=true:=decide_eq_true c95
                have hc95:=hid c95
                clear c95
                simp only [Option.some.injEq,Prod.mk.injEq] at H
                obtain ⟨rfl,rfl,rfl⟩:=H
                go_wp2_with (first
                 |((with_reducible refine Qa (N:=38) rfl ?_);refine Qu (a0.extract (a1:Int).toNat a0.size) gb12 yb12_0_0 BKb12.out hc46.out rfl _ rfl rfl ?_;intro w96 ho_ hB_;replace BKb1:=hid (BKb1.out.off ho_ NBb1_b12.out);replace HL:=hid (ho_.below HL.out GEb12.out);replace BKb12:=hid hB_;clear ho_ hB_)
                 |((with_reducible refine Qa (N:=81) rfl ?_);refine Qr (.agg #[Ii (wrap64 (a1+(yb12_0_0:Int))),Ii 0,Ii 2]) _ rfl rfl ?_ ?_;(intro ww_;simp only [List.map_toArray,List.map_cons,List.map_nil];kernel_rfl))
                 |((with_reducible refine Qf (t:=75) (p:=8) rfl ?_);refine Qg Qs gb1 0 #[Ii 0,Ii 0,Ii 0] #[Ii (wrap64 (a1+(yb12_0_0:Int))),Ii 0,Ii 2] #[Ii (wrap64 (a1+(yb12_0_0:Int))),Ii 0,Ii 2] BKb1.out rfl (by simp) (by intro v_ hv_;simp at hv_;rcases hv_ with rfl|rfl|rfl <;> first|rfl) rfl rfl _ _ rfl rfl rfl ?_;intro w97 ho_ hB_;replace BKb12:=hid (BKb12.out.off ho_ NBb12_b1.out);replace HL:=hid (ho_.below HL.out GEb1.out);replace BKb1:=hid hB_;clear ho_ hB_))
                (try simp only [Act.put,sI,sZ,sS])
                refine bodyPost_ret (v:=.agg #[Ii (wrap64 (a1+(yb12_0_0:Int))),Ii 0,Ii 2]) (Jz Qs rfl _ gb1 #[Ii (wrap64 (a1+(yb12_0_0:Int))),Ii 0,Ii 2] BKb1.out rfl rfl) rfl ?_
                exact ⟨by first|rfl|(simp;done)|(simp [*];done),HL.out⟩
               ·
                rw [if_neg c95] at H
                have c95b0:decide ((wrap64 ((wrap64 (10*x9_0))+(wrap64 (wrap32 (((Utf8.decode (a0.extract (a1:Int).toNat a0.size) yb12_0_0).1:Int)-48)))))<a2)=false:=decide_eq_false c95
                have hc95:=hid c95
                clear c95
                by_cases c98:(wrap64 ((wrap64 (10*x9_0))+(wrap64 (wrap32 (((Utf8.decode (a0.extract (a1:Int).toNat a0.size) yb12_0_0).1:Int)-48)))))>a3
                ·
                 rw [if_pos c98] at H
                 have c98b0:decide (a3<(wrap64 ((wrap64 (10*x9_0))+(wrap64 (wrap32 (((Utf8.decode (a0.extract (a1:Int).toNat a0.size) yb12_0_0).1:Int)-48))))))=true:=decide_eq_true c98
                 have hc98:=hid c98
                 clear c98
                 simp only [Option.some.injEq,Prod.mk.injEq] at H
                 obtain ⟨rfl,rfl,rfl⟩:=H
                 go_wp2_with (first
                  |((with_reducible refine Qa (N:=38) rfl ?_);refine Qu (a0.extract (a1:Int).toNat a0.size) gb12 yb12_0_0 BKb12.out hc46.out rfl _ rfl rfl ?_;intro w99 ho_ hB_;replace BKb1:=hid (BKb1.out.off ho_ NBb1_b12.out);replace HL:=hid (ho_.below HL.out GEb12.out);replace BKb12:=hid hB_;clear ho_ hB_)
                  |((with_reducible refine Qa (N:=81) rfl ?_);refine Qr (.agg #[Ii (wrap64 (a1+(yb12_0_0:Int))),Ii 0,Ii 2]) _ rfl rfl ?_ ?_;(intro ww_;simp only [List.map_toArray,List.map_cons,List.map_nil];kernel_rfl))
                  |((with_reducible refine Qf (t:=75) (p:=8) rfl ?_);refine Qg Qs gb1 0 #[Ii 0,Ii 0,Ii 0] #[Ii (wrap64 (a1+(yb12_0_0:Int))),Ii 0,Ii 2] #[Ii (wrap64 (a1+(yb12_0_0:Int))),Ii 0,Ii 2] BKb1.out rfl (by simp) (by intro v_ hv_;simp at hv_;rcases hv_ with rfl|rfl|rfl <;> first|rfl) rfl rfl _ _ rfl rfl rfl ?_;intro w100 ho_ hB_;replace BKb12:=hid (BKb12.out.off ho_ NBb12_b1.out);replace HL:=hid (ho_.below HL.out GEb1.out);replace BKb1:=hid hB_;clear ho_ hB_))
                 (try simp only [Act.put,sI,sZ,sS])
                 refine bodyPost_ret (v:=.agg #[Ii (wrap64 (a1+(yb12_0_0:Int))),Ii 0,Ii 2]) (Jz Qs rfl _ gb1 #[Ii (wrap64 (a1+(yb12_0_0:Int))),Ii 0,Ii 2] BKb1.out rfl rfl) rfl ?_
                 exact ⟨by first|rfl|(simp;done)|(simp [*];done),HL.out⟩
                ·
                 rw [if_neg c98] at H
                 have c98b0:decide (a3<(wrap64 ((wrap64 (10*x9_0))+(wrap64 (wrap32 (((Utf8.decode (a0.extract (a1:Int).toNat a0.size) yb12_0_0).1:Int)-48))))))=false:=decide_eq_false c98
                 have hc98:=hid c98
                 clear c98
                 have H':=hid H
                 clear H
                 go_wp2_with (first
                  |((with_reducible refine Qa (N:=38) rfl ?_);refine Qu (a0.extract (a1:Int).toNat a0.size) gb12 yb12_0_0 BKb12.out hc46.out rfl _ rfl rfl ?_;intro w101 ho_ hB_;replace BKb1:=hid (BKb1.out.off ho_ NBb1_b12.out);replace HL:=hid (ho_.below HL.out GEb12.out);replace BKb12:=hid hB_;clear ho_ hB_))
                 (try simp only [Act.put,sI,sZ,sS])
                 go_roundg k45
                 case measure=>have:=HK44.out;omega
                 case rel=>exact ⟨wrap64 ((wrap64 (10*x9_0))+(wrap64 (wrap32 (((Utf8.decode (a0.extract (a1:Int).toNat a0.size) yb12_0_0).1:Int)-48)))),x10_0,(yb12_0_0+(Utf8.decode (a0.extract (a1:Int).toNat a0.size) yb12_0_0).2),(by first|rfl|(simp;done)|(simp [*];done)),(by first|rfl|(simp;done)|(simp [*];done)),H',(hid (by first|omega|(have:=HK44.out;omega))),(hid (by exact BKb1.out)),(hid (by exact BKb12.out)),HL⟩
             ·
              rw [if_neg c86] at H
              have c86b0:((yb12_0_0:Int)==0)=false:=beq_eq_false_iff_ne.mpr c86
              have c86b1:((yb12_0_0:Int) != 0)=true:=bne_iff_ne.mpr c86
              have c86b2:(yb12_0_0==0)=false:=by first|simpa using c86|(simp at c86 ⊢;omega)
              have c86b3:(yb12_0_0 != 0)=true:=by first|simpa using c86|(simp at c86 ⊢;omega)
              have hc86:=hid c86
              clear c86
              by_cases c102:(wrap64 ((wrap64 (10*x9_0))+(wrap64 (wrap32 (((Utf8.decode (a0.extract (a1:Int).toNat a0.size) yb12_0_0).1:Int)-48)))))>a3
              ·
               rw [if_pos c102] at H
               have c102b0:decide (a3<(wrap64 ((wrap64 (10*x9_0))+(wrap64 (wrap32 (((Utf8.decode (a0.extract (a1:Int).toNat a0.size) yb12_0_0).1:Int)-48))))))=true:=decide_eq_true c102
               have hc102:=hid c102
               clear c102
               simp only [Option.some.injEq,Prod.mk.injEq] at H
               obtain ⟨rfl,rfl,rfl⟩:=H
               go_wp2_with (first
                |((with_reducible refine Qa (N:=38) rfl ?_);refine Qu (a0.extract (a1:Int).toNat a0.size) gb12 yb12_0_0 BKb12.out hc46.out rfl _ rfl rfl ?_;intro w103 ho_ hB_;replace BKb1:=hid (BKb1.out.off ho_ NBb1_b12.out);replace HL:=hid (ho_.below HL.out GEb12.out);replace BKb12:=hid hB_;clear ho_ hB_)
                |((with_reducible refine Qa (N:=81) rfl ?_);refine Qr (.agg #[Ii (wrap64 (a1+(yb12_0_0:Int))),Ii 0,Ii 2]) _ rfl rfl ?_ ?_;(intro ww_;simp only [List.map_toArray,List.map_cons,List.map_nil];kernel_rfl))
                |((with_reducible refine Qf (t:=75) (p:=8) rfl ?_);refine Qg Qs gb1 0 #[Ii 0,Ii 0,Ii 0] #[Ii (wrap64 (a1+(yb12_0_0:Int))),Ii 0,Ii 2] #[Ii (wrap64 (a1+(yb12_0_0:Int))),Ii 0,Ii 2] BKb1.out rfl (by simp) (by intro v_ hv_;simp at hv_;rcases hv_ with rfl|rfl|rfl <;> first|rfl) rfl rfl _ _ rfl rfl rfl ?_;intro w104 ho_ hB_;replace BKb12:=hid (BKb12.out.off ho_ NBb12_b1.out);replace HL:=hid (ho_.below HL.out GEb1.out);replace BKb1:=hid hB_;clear ho_ hB_))
               (try simp only [Act.put,sI,sZ,sS])
               refine bodyPost_ret (v:=.agg #[Ii (wrap64 (a1+(yb12_0_0:Int))),Ii 0,Ii 2]) (Jz Qs rfl _ gb1 #[Ii (wrap64 (a1+(yb12_0_0:Int))),Ii 0,Ii 2] BKb1.out rfl rfl) rfl ?_
               exact ⟨by first|rfl|(simp;done)|(simp [*];done),HL.out⟩
              ·
               rw [if_neg c102] at H
               have c102b0:decide (a3<(wrap64 ((wrap64 (10*x9_0))+(wrap64 (wrap32 (((Utf8.decode (a0.extract (a1:Int).toNat a0.size) yb12_0_0).1:Int)-48))))))=false:=decide_eq_false c102
               have hc102:=hid c102
               clear c102
               have H':=hid H
               clear H
               go_wp2_with (first
                |((with_reducible refine Qa (N:=38) rfl ?_);refine Qu (a0.extract (a1:Int).toNat a0.size) gb12 yb12_0_0 BKb12.out hc46.out rfl _ rfl rfl ?_;intro w105 ho_ hB_;replace BKb1:=hid (BKb1.out.off ho_ NBb1_b12.out);replace HL:=hid (ho_.below HL.out GEb12.out);replace BKb12:=hid hB_;clear ho_ hB_))
               (try simp only [Act.put,sI,sZ,sS])
               go_roundg k45
               case measure=>have:=HK44.out;omega
               case rel=>exact ⟨wrap64 ((wrap64 (10*x9_0))+(wrap64 (wrap32 (((Utf8.decode (a0.extract (a1:Int).toNat a0.size) yb12_0_0).1:Int)-48)))),x10_0,(yb12_0_0+(Utf8.decode (a0.extract (a1:Int).toNat a0.size) yb12_0_0).2),(by first|rfl|(simp;done)|(simp [*];done)),(by first|rfl|(simp;done)|(simp [*];done)),H',(hid (by first|omega|(have:=HK44.out;omega))),(hid (by exact BKb1.out)),(hid (by exact BKb12.out)),HL⟩
         ·
          rw [if_neg c46] at H
          have c46b0:decide (yb12_0_0<(a0.extract (a1:Int).toNat a0.size).size)=false:=decide_eq_false c46
          have hc46:=hid c46
          clear c46
          by_cases c106:x10_0>a1
          ·
           rw [if_pos c106] at H
           have c106b0:decide (a1<x10_0)=true:=decide_eq_true c106
           have hc106:=hid c106
           clear c106
           by_cases c107:x9_0≥a2
           ·
            rw [if_pos c107] at H
            have c107b0:decide (a2≤x9_0)=true:=decide_eq_true c107
            have hc107:=hid c107
            clear c107
            simp only [Option.some.injEq,Prod.mk.injEq] at H
            obtain ⟨rfl,rfl,rfl⟩:=H
            go_wp2_with (first
             |((with_reducible refine Qa (N:=38) rfl ?_);refine ZF (a0.extract (a1:Int).toNat a0.size) gb12 yb12_0_0 BKb12.out hc46.out rfl _ rfl rfl ?_)
             |((with_reducible refine Qa (N:=99) rfl ?_);refine Qr (.agg #[Ii x10_0,Ii x9_0,Ii 0]) _ rfl rfl ?_ ?_;(intro ww_;simp only [List.map_toArray,List.map_cons,List.map_nil];kernel_rfl))
             |((with_reducible refine Qf (t:=75) (p:=8) rfl ?_);refine Qg Qs gb1 0 #[Ii 0,Ii 0,Ii 0] #[Ii x10_0,Ii x9_0,Ii 0] #[Ii x10_0,Ii x9_0,Ii 0] BKb1.out rfl (by simp) (by intro v_ hv_;simp at hv_;rcases hv_ with rfl|rfl|rfl <;> first|rfl) rfl rfl _ _ rfl rfl rfl ?_;intro w108 ho_ hB_;replace BKb12:=hid (BKb12.out.off ho_ NBb12_b1.out);replace HL:=hid (ho_.below HL.out GEb1.out);replace BKb1:=hid hB_;clear ho_ hB_))
            (try simp only [Act.put,sI,sZ,sS])
            refine bodyPost_ret (v:=.agg #[Ii x10_0,Ii x9_0,Ii 0]) (Jz Qs rfl _ gb1 #[Ii x10_0,Ii x9_0,Ii 0] BKb1.out rfl rfl) rfl ?_
            exact ⟨by first|rfl|(simp;done)|(simp [*];done),HL.out⟩
           ·
            rw [if_neg c107] at H
            have c107b0:decide (a2≤x9_0)=false:=decide_eq_false c107
            have hc107:=hid c107
            clear c107
            by_cases c109:x10_0=(a0.size:Int)
            ·
             rw [if_pos c109] at H
             have c109b0:(x10_0==(a0.size:Int))=true:=beq_iff_eq.mpr c109
             have c109b1:(x10_0 != (a0.size:Int))=false:=bne_eq_false_iff_eq.mpr c109
             have hc109:=hid c109
             clear c109
             simp only [Option.some.injEq,Prod.mk.injEq] at H
             obtain ⟨rfl,rfl,rfl⟩:=H
             go_wp2_with (first
              |((with_reducible refine Qa (N:=38) rfl ?_);refine ZF (a0.extract (a1:Int).toNat a0.size) gb12 yb12_0_0 BKb12.out hc46.out rfl _ rfl rfl ?_)
              |((with_reducible refine Qa (N:=106) rfl ?_);refine Qr (.agg #[Ii x10_0,Ii 0,Ii 1]) _ rfl rfl ?_ ?_;(intro ww_;simp only [List.map_toArray,List.map_cons,List.map_nil];kernel_rfl))
              |((with_reducible refine Qf (t:=75) (p:=8) rfl ?_);refine Qg Qs gb1 0 #[Ii 0,Ii 0,Ii 0] #[Ii x10_0,Ii 0,Ii 1] #[Ii x10_0,Ii 0,Ii 1] BKb1.out rfl (by simp) (by intro v_ hv_;simp at hv_;rcases hv_ with rfl|rfl|rfl <;> first|rfl) rfl rfl _ _ rfl rfl rfl ?_;intro w110 ho_ hB_;replace BKb12:=hid (BKb12.out.off ho_ NBb12_b1.out);replace HL:=hid (ho_.below HL.out GEb1.out);replace BKb1:=hid hB_;clear ho_ hB_))
             (try simp only [Act.put,sI,sZ,sS])
             refine bodyPost_ret (v:=.agg #[Ii x10_0,Ii 0,Ii 1]) (Jz Qs rfl _ gb1 #[Ii x10_0,Ii 0,Ii 1] BKb1.out rfl rfl) rfl ?_
             exact ⟨by first|rfl|(simp;done)|(simp [*];done),HL.out⟩
            ·
             rw [if_neg c109] at H
             have c109b0:(x10_0==(a0.size:Int))=false:=beq_eq_false_iff_ne.mpr c109
             have c109b1:(x10_0 != (a0.size:Int))=true:=bne_iff_ne.mpr c109
             have hc109:=hid c109
             clear c109
             simp only [Option.some.injEq,Prod.mk.injEq] at H
             obtain ⟨rfl,rfl,rfl⟩:=H
             go_wp2_with (first
              |((with_reducible refine Qa (N:=38) rfl ?_);refine ZF (a0.extract (a1:Int).toNat a0.size) gb12 yb12_0_0 BKb12.out hc46.out rfl _ rfl rfl ?_)
              |((with_reducible refine Qa (N:=108) rfl ?_);refine Qr (.agg #[Ii x10_0,Ii 0,Ii 2]) _ rfl rfl ?_ ?_;(intro ww_;simp only [List.map_toArray,List.map_cons,List.map_nil];kernel_rfl))
              |((with_reducible refine Qf (t:=75) (p:=8) rfl ?_);refine Qg Qs gb1 0 #[Ii 0,Ii 0,Ii 0] #[Ii x10_0,Ii 0,Ii 2] #[Ii x10_0,Ii 0,Ii 2] BKb1.out rfl (by simp) (by intro v_ hv_;simp at hv_;rcases hv_ with rfl|rfl|rfl <;> first|rfl) rfl rfl _ _ rfl rfl rfl ?_;intro w111 ho_ hB_;replace BKb12:=hid (BKb12.out.off ho_ NBb12_b1.out);replace HL:=hid (ho_.below HL.out GEb1.out);replace BKb1:=hid hB_;clear ho_ hB_))
             (try simp only [Act.put,sI,sZ,sS])
             refine bodyPost_ret (v:=.agg #[Ii x10_0,Ii 0,Ii 2]) (Jz Qs rfl _ gb1 #[Ii x10_0,Ii 0,Ii 2] BKb1.out rfl rfl) rfl ?_
             exact ⟨by first|rfl|(simp;done)|(simp [*];done),HL.out⟩
          ·
           rw [if_neg c106] at H
           have c106b0:decide (a1<x10_0)=false:=decide_eq_false c106
           have hc106:=hid c106
           clear c106
           by_cases c112:x10_0=(a0.size:Int)
           ·
            rw [if_pos c112] at H
            have c112b0:(x10_0==(a0.size:Int))=true:=beq_iff_eq.mpr c112
            have c112b1:(x10_0 != (a0.size:Int))=false:=bne_eq_false_iff_eq.mpr c112
            have hc112:=hid c112
            clear c112
            simp only [Option.some.injEq,Prod.mk.injEq] at H
            obtain ⟨rfl,rfl,rfl⟩:=H
            go_wp2_with (first
             |((with_reducible refine Qa (N:=38) rfl ?_);refine ZF (a0.extract (a1:Int).toNat a0.size) gb12 yb12_0_0 BKb12.out hc46.out rfl _ rfl rfl ?_)
             |((with_reducible refine Qa (N:=106) rfl ?_);refine Qr (.agg #[Ii x10_0,Ii 0,Ii 1]) _ rfl rfl ?_ ?_;(intro ww_;simp only [List.map_toArray,List.map_cons,List.map_nil];kernel_rfl))
             |((with_reducible refine Qf (t:=75) (p:=8) rfl ?_);refine Qg Qs gb1 0 #[Ii 0,Ii 0,Ii 0] #[Ii x10_0,Ii 0,Ii 1] #[Ii x10_0,Ii 0,Ii 1] BKb1.out rfl (by simp) (by intro v_ hv_;simp at hv_;rcases hv_ with rfl|rfl|rfl <;> first|rfl) rfl rfl _ _ rfl rfl rfl ?_;intro w113 ho_ hB_;replace BKb12:=hid (BKb12.out.off ho_ NBb12_b1.out);replace HL:=hid (ho_.below HL.out GEb1.out);replace BKb1:=hid hB_;clear ho_ hB_))
            (try simp only [Act.put,sI,sZ,sS])
            refine bodyPost_ret (v:=.agg #[Ii x10_0,Ii 0,Ii 1]) (Jz Qs rfl _ gb1 #[Ii x10_0,Ii 0,Ii 1] BKb1.out rfl rfl) rfl ?_
            exact ⟨by first|rfl|(simp;done)|(simp [*];done),HL.out⟩
           ·
            rw [if_neg c112] at H
            have c112b0:(x10_0==(a0.size:Int))=false:=beq_eq_false_iff_ne.mpr c112
            have c112b1:(x10_0 != (a0.size:Int))=true:=bne_iff_ne.mpr c112
            have hc112:=hid c112
            clear c112
            simp only [Option.some.injEq,Prod.mk.injEq] at H
            obtain ⟨rfl,rfl,rfl⟩:=H
            go_wp2_with (first
             |((with_reducible refine Qa (N:=38) rfl ?_);refine ZF (a0.extract (a1:Int).toNat a0.size) gb12 yb12_0_0 BKb12.out hc46.out rfl _ rfl rfl ?_)
             |((with_reducible refine Qa (N:=108) rfl ?_);refine Qr (.agg #[Ii x10_0,Ii 0,Ii 2]) _ rfl rfl ?_ ?_;(intro ww_;simp only [List.map_toArray,List.map_cons,List.map_nil];kernel_rfl))
             |((with_reducible refine Qf (t:=75) (p:=8) rfl ?_);refine Qg Qs gb1 0 #[Ii 0,Ii 0,Ii 0] #[Ii x10_0,Ii 0,Ii 2] #[Ii x10_0,Ii 0,Ii 2] BKb1.out rfl (by simp) (by intro v_ hv_;simp at hv_;rcases hv_ with rfl|rfl|rfl <;> first|rfl) rfl rfl _ _ rfl rfl rfl ?_;intro w114 ho_ hB_;replace BKb12:=hid (BKb12.out.off ho_ NBb12_b1.out);replace HL:=hid (ho_.below HL.out GEb1.out);replace BKb1:=hid hB_;clear ho_ hB_))
            (try simp only [Act.put,sI,sZ,sS])
            refine bodyPost_ret (v:=.agg #[Ii x10_0,Ii 0,Ii 2]) (Jz Qs rfl _ gb1 #[Ii x10_0,Ii 0,Ii 2] BKb1.out rfl rfl) rfl ?_
            exact ⟨by first|rfl|(simp;done)|(simp [*];done),HL.out⟩
      ·
       rw [if_neg c40] at H
       exact absurd H (by simp)
     ·
      rw [if_neg c39] at H
      exact absurd H (by simp)
 |false=>
  rw [if_neg (show ¬ (false=true) by decide)] at H
  replace H:=Ia H
  obtain ⟨⟨t13,t14,t15⟩,A115_,H⟩:=H
  dsimp only at H
  have A115:=hid A115_
  clear A115_
  simp only [Option.some.injEq,Prod.mk.injEq] at H
  obtain ⟨rfl,rfl,rfl⟩:=H
  go_enter Tryz.func65,Tryz.ntmps65
  have k117:=True.intro
  have k118:=True.intro
  go_wp2_with (first
   |((with_reducible refine Qa (N:=8) rfl ?_);obtain ⟨gb1,hgb1⟩:∃ g_,w.heap.size=g_:=⟨_,rfl⟩;refine Qq Qs gb1 hgb1 rfl rfl ?_;intro w116 hb_ hB_ hs_;have GEb1:Hid (w.heap.size≤gb1):=hid (by have:=HL.out.size;omega);replace HL:=hid (HL.out.trans (hb_.mono GEb1.out));have BKb1:=hid hB_;clear hb_ hB_ hs_ hgb1)
   |(go_at_call 66;clear k117;refine (QD.c a0 a1 false _ A16.out).mono ?_;rintro e_ w' ⟨rfl,rfl⟩)
   |(go_at_call 67;clear k118;refine (QG.c t13 t14 t15 _ A115.out).mono ?_;rintro e_ w119 ⟨rfl,hb_⟩;replace BKb1:=hid (BKb1.out.below hb_ BKb1.out.lt);replace HL:=hid (HL.out.trans (hb_.mono HL.out.size));clear hb_)
   |((with_reducible refine Qf (t:=75) (p:=8) rfl ?_);refine Qg Qs gb1 0 #[Ii 0,Ii 0,Ii 0] #[Ii t13,Ii t14,Ii t15] #[Ii t13,Ii t14,Ii t15] BKb1.out rfl (by simp) (by intro v_ hv_;simp at hv_;rcases hv_ with rfl|rfl|rfl <;> first|rfl) rfl rfl _ _ rfl rfl rfl ?_;intro w120 ho_ hB_;replace HL:=hid (ho_.below HL.out GEb1.out);replace BKb1:=hid hB_;clear ho_ hB_))
  (try simp only [Act.put,sI,sZ,sS])
  refine bodyPost_ret (v:=.agg #[Ii t13,Ii t14,Ii t15]) (Jz Qs rfl _ gb1 #[Ii t13,Ii t14,Ii t15] BKb1.out rfl rfl) rfl ?_
  exact ⟨by first|rfl|(simp;done)|(simp [*];done),HL.out⟩
end Go.Proofs.YtaipghemddjecaaGreatDoor
