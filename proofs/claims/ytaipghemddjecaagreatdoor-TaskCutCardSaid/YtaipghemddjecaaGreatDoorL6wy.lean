import Derived.Test.YtaipghemddjecaaGreatDoorMiy
import Derived.Test.YtaipghemddjecaaGreatDoorProg
import Derived.Test.YtaipghemddjecaaGreatDoorL5wy
import Derived.Test.YtaipghemddjecaaGreatDoorIby
namespace Go.Proofs.YtaipghemddjecaaGreatDoor
set_option maxHeartbeats 40000000
set_option maxRecDepth 100000
open Go.RowKit
set_option linter.unusedVariables false
set_option linter.unusedSimpArgs false
def ZH.f(a0:ByteArray)(a1:Int):Option (ByteArray×Int×Int×Int):=(QD.f a0 a1).bind fun t2=>(if t2=true then (if 0≤a1 then (if a1≤(a0.size:Int) then (if (ixB (a0.extract (a1:Int).toNat a0.size) 10)<0 then (some (a0.extract (a1:Int).toNat a0.size,(a0.size:Int),0,1)) else (if a1≤(wrap64 (a1+(ixB (a0.extract (a1:Int).toNat a0.size) 10))) then (if (wrap64 (a1+(ixB (a0.extract (a1:Int).toNat a0.size) 10)))≤(a0.size:Int) then (some (a0.extract (a1:Int).toNat ((wrap64 (a1+(ixB (a0.extract (a1:Int).toNat a0.size) 10))):Int).toNat,wrap64 ((wrap64 (a1+(ixB (a0.extract (a1:Int).toNat a0.size) 10)))+1),0,0)) else (none)) else (none))) else (none)) else (none)) else ((QG.f).bind fun bt3=>(some ((⟨#[]⟩:ByteArray),bt3.1,bt3.2.1,bt3.2.2))))
theorem ZH.c(a0:ByteArray)(a1:Int)(r1:ByteArray)(r2 r3 r4:Int)(w:World)(h:ZH.f a0 a1=some (r1,r2,r3,r4)):
 Calls Tryz.prog 69 #[.string a0,Ii a1] w fun e w'=>e=.returned (.tuple #[.string r1,.agg #[Ii r2,Ii r3,Ii r4]])∧Below w.heap.size w w':=by
 have HL:=hid (Below.refl w.heap.size w)
 have H:((QD.f a0 a1).bind fun t2=>(if t2=true then (if 0≤a1 then (if a1≤(a0.size:Int) then (if (ixB (a0.extract (a1:Int).toNat a0.size) 10)<0 then (some (a0.extract (a1:Int).toNat a0.size,(a0.size:Int),0,1)) else (if a1≤(wrap64 (a1+(ixB (a0.extract (a1:Int).toNat a0.size) 10))) then (if (wrap64 (a1+(ixB (a0.extract (a1:Int).toNat a0.size) 10)))≤(a0.size:Int) then (some (a0.extract (a1:Int).toNat ((wrap64 (a1+(ixB (a0.extract (a1:Int).toNat a0.size) 10))):Int).toNat,wrap64 ((wrap64 (a1+(ixB (a0.extract (a1:Int).toNat a0.size) 10)))+1),0,0)) else (none)) else (none))) else (none)) else (none)) else ((QG.f).bind fun bt3=>(some ((⟨#[]⟩:ByteArray),bt3.1,bt3.2.1,bt3.2.2)))))=some (r1,r2,r3,r4):=h
 clear h
 replace H:=Ia H
 obtain ⟨t2,A6_,H⟩:=H
 have A6:=hid A6_
 clear A6_
 cases t2 with
 |true=>
  rw [if_pos rfl] at H
  by_cases c8:0≤a1
  ·
   rw [if_pos c8] at H
   have c8b0:decide (0≤a1)=true:=decide_eq_true c8
   have hc8:=hid c8
   clear c8
   by_cases c9:a1≤(a0.size:Int)
   ·
    rw [if_pos c9] at H
    have c9b0:decide (a1≤(a0.size:Int))=true:=decide_eq_true c9
    have hc9:=hid c9
    clear c9
    by_cases c10:(ixB (a0.extract (a1:Int).toNat a0.size) 10)<0
    ·
     rw [if_pos c10] at H
     have c10b0:decide ((ixB (a0.extract (a1:Int).toNat a0.size) 10)<0)=true:=decide_eq_true c10
     have hc10:=hid c10
     clear c10
     simp only [Option.some.injEq,Prod.mk.injEq] at H
     obtain ⟨rfl,rfl,rfl,rfl⟩:=H
     go_enter Tryz.func69,Tryz.ntmps69
     have k12:=True.intro
     have k13:=True.intro
     go_wp2_with (first
      |((with_reducible refine Qa (N:=5) rfl ?_);obtain ⟨gb1,hgb1⟩:∃ g_,w.heap.size=g_:=⟨_,rfl⟩;refine Qq Qs gb1 hgb1 rfl rfl ?_;intro w11 hb_ hB_ hs_;have GEb1:Hid (w.heap.size≤gb1):=hid (by have:=HL.out.size;omega);replace HL:=hid (HL.out.trans (hb_.mono GEb1.out));have BKb1:=hid hB_;clear hb_ hB_ hs_ hgb1)
      |(go_at_call 66;clear k12;refine (QD.c a0 a1 true _ A6.out).mono ?_;rintro e_ w' ⟨rfl,rfl⟩)
      |((with_reducible refine Qa (N:=14) rfl ?_);refine Qb (.string (a0.extract (a1:Int).toNat a0.size)) (Kn 9 JV a0 a1 hc8.out hc9.out _ _ rfl rfl rfl) rfl ?_)
      |(go_at_call 87;clear k13;refine (QbL (a0.extract (a1:Int).toNat a0.size) 10 _).mono ?_;rintro e_ w' ⟨rfl,rfl⟩)
      |((with_reducible refine Qa (N:=20) rfl ?_);refine Qb (.string (a0.extract (a1:Int).toNat a0.size)) (Kn 9 JV a0 a1 hc8.out hc9.out _ _ rfl rfl rfl) rfl ?_)
      |((with_reducible refine Qa (N:=23) rfl ?_);refine Qr (.agg #[Ii (a0.size:Int),Ii 0,Ii 1]) _ rfl rfl ?_ ?_;(intro ww_;simp only [List.map_toArray,List.map_cons,List.map_nil];kernel_rfl))
      |((with_reducible refine Qf (t:=75) (p:=5) rfl ?_);refine Qg Qs gb1 0 #[Ii 0,Ii 0,Ii 0] #[Ii (a0.size:Int),Ii 0,Ii 1] #[Ii (a0.size:Int),Ii 0,Ii 1] BKb1.out rfl (by simp) (by intro v_ hv_;simp at hv_;rcases hv_ with rfl|rfl|rfl <;> first|rfl) rfl rfl _ _ rfl rfl rfl ?_;intro w14 ho_ hB_;replace HL:=hid (ho_.below HL.out GEb1.out);replace BKb1:=hid hB_;clear ho_ hB_))
     (try simp only [Act.put,sI,sZ,sS])
     refine bodyPost_ret (v:=.tuple #[.string (a0.extract (a1:Int).toNat a0.size),.agg #[Ii (a0.size:Int),Ii 0,Ii 1]]) (kD Qs rfl _ gb1 #[Ii (a0.size:Int),Ii 0,Ii 1] (.string (a0.extract (a1:Int).toNat a0.size)) BKb1.out rfl rfl rfl) rfl ?_
     exact ⟨by first|rfl|(simp;done)|(simp [*];done),HL.out⟩
    ·
     rw [if_neg c10] at H
     have c10b0:decide ((ixB (a0.extract (a1:Int).toNat a0.size) 10)<0)=false:=decide_eq_false c10
     have hc10:=hid c10
     clear c10
     by_cases c15:a1≤(wrap64 (a1+(ixB (a0.extract (a1:Int).toNat a0.size) 10)))
     ·
      rw [if_pos c15] at H
      have c15b0:decide (a1≤(wrap64 (a1+(ixB (a0.extract (a1:Int).toNat a0.size) 10))))=true:=decide_eq_true c15
      have hc15:=hid c15
      clear c15
      by_cases c16:(wrap64 (a1+(ixB (a0.extract (a1:Int).toNat a0.size) 10)))≤(a0.size:Int)
      ·
       rw [if_pos c16] at H
       have c16b0:decide ((wrap64 (a1+(ixB (a0.extract (a1:Int).toNat a0.size) 10)))≤(a0.size:Int))=true:=decide_eq_true c16
       have hc16:=hid c16
       clear c16
       simp only [Option.some.injEq,Prod.mk.injEq] at H
       obtain ⟨rfl,rfl,rfl,rfl⟩:=H
       go_enter Tryz.func69,Tryz.ntmps69
       have k18:=True.intro
       have k19:=True.intro
       go_wp2_with (first
        |((with_reducible refine Qa (N:=5) rfl ?_);obtain ⟨gb1,hgb1⟩:∃ g_,w.heap.size=g_:=⟨_,rfl⟩;refine Qq Qs gb1 hgb1 rfl rfl ?_;intro w17 hb_ hB_ hs_;have GEb1:Hid (w.heap.size≤gb1):=hid (by have:=HL.out.size;omega);replace HL:=hid (HL.out.trans (hb_.mono GEb1.out));have BKb1:=hid hB_;clear hb_ hB_ hs_ hgb1)
        |(go_at_call 66;clear k18;refine (QD.c a0 a1 true _ A6.out).mono ?_;rintro e_ w' ⟨rfl,rfl⟩)
        |((with_reducible refine Qa (N:=14) rfl ?_);refine Qb (.string (a0.extract (a1:Int).toNat a0.size)) (Kn 9 JV a0 a1 hc8.out hc9.out _ _ rfl rfl rfl) rfl ?_)
        |(go_at_call 87;clear k19;refine (QbL (a0.extract (a1:Int).toNat a0.size) 10 _).mono ?_;rintro e_ w' ⟨rfl,rfl⟩)
        |((with_reducible refine Qa (N:=29) rfl ?_);refine Qb (.string (a0.extract (a1:Int).toNat ((wrap64 (a1+(ixB (a0.extract (a1:Int).toNat a0.size) 10))):Int).toNat)) (qz 9 JV a0 a1 (wrap64 (a1+(ixB (a0.extract (a1:Int).toNat a0.size) 10))) hc8.out hc15.out hc16.out _ _ _ rfl rfl rfl rfl) rfl ?_)
        |((with_reducible refine Qa (N:=34) rfl ?_);refine Qr (.agg #[.int .i64 (wrap64 ((wrap64 (a1+(ixB (a0.extract (a1:Int).toNat a0.size) 10)))+1)),Ii 0,Ii 0]) _ rfl rfl ?_ ?_;(intro ww_;simp only [List.map_toArray,List.map_cons,List.map_nil];kernel_rfl))
        |((with_reducible refine Qf (t:=75) (p:=5) rfl ?_);refine Qg Qs gb1 0 #[Ii 0,Ii 0,Ii 0] #[.int .i64 (wrap64 ((wrap64 (a1+(ixB (a0.extract (a1:Int).toNat a0.size) 10)))+1)),Ii 0,Ii 0] #[.int .i64 (wrap64 ((wrap64 (a1+(ixB (a0.extract (a1:Int).toNat a0.size) 10)))+1)),Ii 0,Ii 0] BKb1.out rfl (by simp) (by intro v_ hv_;simp at hv_;rcases hv_ with rfl|rfl|rfl <;> first|rfl) rfl rfl _ _ rfl rfl rfl ?_;intro w20 ho_ hB_;replace HL:=hid (ho_.below HL.out GEb1.out);replace BKb1:=hid hB_;clear ho_ hB_))
       (try simp only [Act.put,sI,sZ,sS])
       refine bodyPost_ret (v:=.tuple #[.string (a0.extract (a1:Int).toNat ((wrap64 (a1+(ixB (a0.extract (a1:Int).toNat a0.size) 10))):Int).toNat),.agg #[.int .i64 (wrap64 ((wrap64 (a1+(ixB (a0.extract (a1:Int).toNat a0.size) 10)))+1)),Ii 0,Ii 0]]) (kD Qs rfl _ gb1 #[.int .i64 (wrap64 ((wrap64 (a1+(ixB (a0.extract (a1:Int).toNat a0.size) 10)))+1)),Ii 0,Ii 0] (.string (a0.extract (a1:Int).toNat ((wrap64 (a1+(ixB (a0.extract (a1:Int).toNat a0.size) 10))):Int).toNat)) BKb1.out rfl rfl rfl) rfl ?_
       exact ⟨by first|rfl|(simp;done)|(simp [*];done),HL.out⟩
      ·
       rw [if_neg c16] at H
       exact absurd H (by simp)
     ·
      rw [if_neg c15] at H
      exact absurd H (by simp)
   ·
    rw [if_neg c9] at H
    exact absurd H (by simp)
  ·
   rw [if_neg c8] at H
   exact absurd H (by simp)
 |false=>
  rw [if_neg (show ¬ (false=true) by decide)] at H
  replace H:=Ia H
  obtain ⟨⟨t3,t4,t5⟩,A21_,H⟩:=H
  dsimp only at H
  have A21:=hid A21_
  clear A21_
  simp only [Option.some.injEq,Prod.mk.injEq] at H
  obtain ⟨rfl,rfl,rfl,rfl⟩:=H
  go_enter Tryz.func69,Tryz.ntmps69
  have k23:=True.intro
  have k24:=True.intro
  go_wp2_with (first
   |((with_reducible refine Qa (N:=5) rfl ?_);obtain ⟨gb1,hgb1⟩:∃ g_,w.heap.size=g_:=⟨_,rfl⟩;refine Qq Qs gb1 hgb1 rfl rfl ?_;intro w22 hb_ hB_ hs_;have GEb1:Hid (w.heap.size≤gb1):=hid (by have:=HL.out.size;omega);replace HL:=hid (HL.out.trans (hb_.mono GEb1.out));have BKb1:=hid hB_;clear hb_ hB_ hs_ hgb1)
   |(go_at_call 66;clear k23;refine (QD.c a0 a1 false _ A6.out).mono ?_;rintro e_ w' ⟨rfl,rfl⟩)
   |(go_at_call 67;clear k24;refine (QG.c t3 t4 t5 _ A21.out).mono ?_;rintro e_ w25 ⟨rfl,hb_⟩;replace BKb1:=hid (BKb1.out.below hb_ BKb1.out.lt);replace HL:=hid (HL.out.trans (hb_.mono HL.out.size));clear hb_)
   |((with_reducible refine Qf (t:=75) (p:=5) rfl ?_);refine Qg Qs gb1 0 #[Ii 0,Ii 0,Ii 0] #[Ii t3,Ii t4,Ii t5] #[Ii t3,Ii t4,Ii t5] BKb1.out rfl (by simp) (by intro v_ hv_;simp at hv_;rcases hv_ with rfl|rfl|rfl <;> first|rfl) rfl rfl _ _ rfl rfl rfl ?_;intro w26 ho_ hB_;replace HL:=hid (ho_.below HL.out GEb1.out);replace BKb1:=hid hB_;clear ho_ hB_))
  (try simp only [Act.put,sI,sZ,sS])
  refine bodyPost_ret (v:=.tuple #[.string (⟨#[]⟩:ByteArray),.agg #[Ii t3,Ii t4,Ii t5]]) (kD Qs rfl _ gb1 #[Ii t3,Ii t4,Ii t5] (.string (⟨#[]⟩:ByteArray)) BKb1.out rfl rfl rfl) rfl ?_
  exact ⟨by first|rfl|(simp;done)|(simp [*];done),HL.out⟩
end Go.Proofs.YtaipghemddjecaaGreatDoor
