import Derived.Test.YtaipghemddjecaaGreatDoorProg
import Derived.Test.YtaipghemddjecaaGreatDoorPly
import Derived.WalkKit
import Derived.WalkSpells
import Derived.WalkLawsBesides
import Derived.Deep.QuietTactic
import Derived.BigQuiet
import Derived.Outline
import Derived.Test.YtaipghemddjecaaGreatDoorMiy
import Derived.Test.YtaipghemddjecaaGreatDoorIty
import Derived.Test.YtaipghemddjecaaGreatDoorF3wy
import Derived.Test.YtaipghemddjecaaGreatDoorYvy
namespace Go.Proofs.YtaipghemddjecaaGreatDoor
set_option maxHeartbeats 40000000
set_option maxRecDepth 100000
open Go.RowKit
theorem kW(w:World)(t:TypeId)(a b:Value):(w.alloc (.cells #[a,b] t)).cell? ⟨w.heap.size,0,none⟩=some a:=(Blk.new w t #[a,b]).cell 0
theorem kX(w:World)(t:TypeId)(a b:Value):(w.alloc (.cells #[a,b] t)).cell? ⟨w.heap.size,1,none⟩=some b:=(Blk.new w t #[a,b]).cell 1
theorem QaN(w:World)(a b:Int):(convert 68 9 (.slice (some ⟨w.heap.size,0,none⟩) 2 2)).run Tryz.prog (w.alloc (.cells #[.int .i32 a,.int .i32 b] 21)) =
    .ok (.string (runesBytes [a,b])) (w.alloc (.cells #[.int .i32 a,.int .i32 b] 21)):=
  run_convert_runes (P:=Tryz.prog) _ _ _ 21 ⟨w.heap.size,0,none⟩ 2 2 [a,b] (by simp) Tryz.underlying68 Tryz.underlying21 Tryz.underlying9
    (fun j hj=>by
      match j,hj with
      |0,_=>exact kW w _ _ _
      |1,_=>exact kX w _ _ _
      |n+2,h=>simp at h;omega)
theorem QfQ(s:Int)(w:World):
    Calls Tryz.prog 16 #[.int .i64 s] w fun e w'=>e=.returned (.string (Kb s))∧Below w.heap.size w w':=by
  by_cases h0:0≤s
  · by_cases h1:s<64
    · have H:=hid (Qcd h0 h1)
      have h1':s≤63:=by omega
      have kc:=QaN w (97+s%8) (49+s/8)
      have HE:=hid (QfM (a:=97+s%8) (b:=49+s/8) (by omega) (by omega) (by omega) (by omega))
      go_enter Tryz.func16,Tryz.ntmps16
      go_wp2
      go_ret
      refine ⟨?_,(Below.refl _ _).alloc (Nat.le_refl _) _⟩
      rw [H.out,HE.out,show (97+s%8).toNat=97+(s%8).toNat by omega,show (49+s/8).toNat=49+(s/8).toNat by omega];rfl
    · have H:=hid (zb (s:=s) (by omega))
      have d:=decide_eq_false (show ¬ s<64 by omega)
      go_enter Tryz.func16,Tryz.ntmps16
      go_wp2
      go_ret
      exact ⟨by rw [H.out];rfl,Below.refl _ _⟩
  · have H:=hid (zb (s:=s) (by omega))
    go_enter Tryz.func16,Tryz.ntmps16
    go_wp2
    go_ret
    exact ⟨by rw [H.out];rfl,Below.refl _ _⟩
set_option maxHeartbeats 40000000
set_option maxRecDepth 100000
open Go.RowKit
set_option linter.unusedVariables false
set_option linter.unusedSimpArgs false
theorem Xv(g:Nat)(w:World):(Instr.fieldAt 30 (Pg g 0) 0).run Tryz.prog w=.ok (Pg g 0) w:=by kernel_rfl
theorem qm(g:Nat)(w:World):(Instr.fieldAt 30 (Pg g 0) 1).run Tryz.prog w=.ok (Pg g 67) w:=by kernel_rfl
theorem Qcw(g:Nat)(w:World):(Instr.fieldAt 26 (Pg g 0) 0).run Tryz.prog w=.ok (Pg g 0) w:=by kernel_rfl
theorem Ve(g:Nat)(w:World):(Instr.fieldAt 26 (Pg g 0) 1).run Tryz.prog w=.ok (Pg g 64) w:=by kernel_rfl
theorem ZT(g:Nat)(w:World):(Instr.fieldAt 26 (Pg g 0) 2).run Tryz.prog w=.ok (Pg g 65) w:=by kernel_rfl
theorem XL(g:Nat)(w:World):(Instr.fieldAt 26 (Pg g 0) 3).run Tryz.prog w=.ok (Pg g 66) w:=by kernel_rfl
theorem ZG(g:Nat)(w:World):(Instr.fieldAt 30 (Pg g 0) 4).run Tryz.prog w=.ok (Pg g 73) w:=by kernel_rfl
theorem Kd(g:Nat)(w:World):(Instr.fieldAt 30 (Pg g 0) 5).run Tryz.prog w=.ok (Pg g 74) w:=by kernel_rfl
def JK.f(a0:Int):Option (Int):=if a0=0 then (some (wrap64 (1-a0))) else (if a0=1 then (some (wrap64 (1-a0))) else (some (-1)))
theorem JK.c(a0 r1:Int)(w:World)(h:JK.f a0=some r1):
 Calls Tryz.prog 26 #[Ii a0] w fun e w'=>e=.returned (Ii r1)∧w=w':=by
 have H:(if a0=0 then (some (wrap64 (1-a0))) else (if a0=1 then (some (wrap64 (1-a0))) else (some (-1))))=some r1:=h
 clear h
 by_cases c1:a0=0
 ·
  rw [if_pos c1] at H
  have c1b0:(a0==0)=true:=beq_iff_eq.mpr c1
  have c1b1:(a0 != 0)=false:=bne_eq_false_iff_eq.mpr c1
  have hc1:=hid c1
  clear c1
  obtain rfl:=Option.some.inj H
  clear H
  go_enter Tryz.func26,Tryz.ntmps26
  go_wp2_with fail
  (try simp only [Act.put,sI,sZ,sS])
  go_ret
  exact ⟨by first|rfl|(simp;done)|(simp [*];done),rfl⟩
 ·
  rw [if_neg c1] at H
  have c1b0:(a0==0)=false:=beq_eq_false_iff_ne.mpr c1
  have c1b1:(a0 != 0)=true:=bne_iff_ne.mpr c1
  have hc1:=hid c1
  clear c1
  by_cases c2:a0=1
  ·
   rw [if_pos c2] at H
   have c2b0:(a0==1)=true:=beq_iff_eq.mpr c2
   have c2b1:(a0 != 1)=false:=bne_eq_false_iff_eq.mpr c2
   have hc2:=hid c2
   clear c2
   obtain rfl:=Option.some.inj H
   clear H
   go_enter Tryz.func26,Tryz.ntmps26
   go_wp2_with fail
   (try simp only [Act.put,sI,sZ,sS])
   go_ret
   exact ⟨by first|rfl|(simp;done)|(simp [*];done),rfl⟩
  ·
   rw [if_neg c2] at H
   have c2b0:(a0==1)=false:=beq_eq_false_iff_ne.mpr c2
   have c2b1:(a0 != 1)=true:=bne_iff_ne.mpr c2
   have hc2:=hid c2
   clear c2
   obtain rfl:=Option.some.inj H
   clear H
   go_enter Tryz.func26,Tryz.ntmps26
   go_wp2_with fail
   (try simp only [Act.put,sI,sZ,sS])
   go_ret
   exact ⟨by first|rfl|(simp;done)|(simp [*];done),rfl⟩
def JD.f(a0:Int):Option (Bool):=if a0≥0 then (some (decide (a0<64))) else (some false)
theorem JD.c(a0:Int)(r1:Bool)(w:World)(h:JD.f a0=some r1):
 Calls Tryz.prog 27 #[Ii a0] w fun e w'=>e=.returned (.bool r1)∧w=w':=by
 have H:(if a0≥0 then (some (decide (a0<64))) else (some false))=some r1:=h
 clear h
 by_cases c1:a0≥0
 ·
  rw [if_pos c1] at H
  have c1b0:decide (0≤a0)=true:=decide_eq_true c1
  have hc1:=hid c1
  clear c1
  obtain rfl:=Option.some.inj H
  clear H
  go_enter Tryz.func27,Tryz.ntmps27
  go_wp2_with fail
  (try simp only [Act.put,sI,sZ,sS])
  go_ret
  exact ⟨by first|rfl|(simp;done)|(simp [*];done),rfl⟩
 ·
  rw [if_neg c1] at H
  have c1b0:decide (0≤a0)=false:=decide_eq_false c1
  have hc1:=hid c1
  clear c1
  obtain rfl:=Option.some.inj H
  clear H
  go_enter Tryz.func27,Tryz.ntmps27
  go_wp2_with fail
  (try simp only [Act.put,sI,sZ,sS])
  go_ret
  exact ⟨by first|rfl|(simp;done)|(simp [*];done),rfl⟩
def JO.f(k:Nat)(a0_0:List Int)(a0_1 a0_2 a0_3 a0_4 a0_5 a0_6:Int)(a0_7 a0_8 a0_9:Bool)(a0_10 a0_11:Int):Option (Bool):=(Jw.f a0_4 a0_5 a0_6 a0_7).bind fun bt3=>(if bt3.2=true then ((QB.f k a0_0).bind fun t5=>(if t5=true then ((JK.f a0_1).bind fun t6=>(if t6≥0 then (if a0_2≥0 then (if a0_2≤15 then (if a0_3=(-1) then (if a0_10≥0 then (if a0_10≤1000 then (if a0_11≥(-1) then (some (decide (a0_11≤4))) else (some false)) else (some false)) else (some false)) else ((JD.f a0_3).bind fun t7=>(if t7=true then (if a0_10≥0 then (if a0_10≤1000 then (if a0_11≥(-1) then (some (decide (a0_11≤4))) else (some false)) else (some false)) else (some false)) else (some false)))) else (some false)) else (some false)) else (some false))) else (some false))) else (some false))
theorem JO.c(k:Nat)(a0_0:List Int)(a0_1 a0_2 a0_3 a0_4 a0_5 a0_6:Int)(a0_7 a0_8 a0_9:Bool)(a0_10 a0_11:Int)(hla0_0:a0_0.length=64)(r1:Bool)(w:World)(h:JO.f k a0_0 a0_1 a0_2 a0_3 a0_4 a0_5 a0_6 a0_7 a0_8 a0_9 a0_10 a0_11=some r1):
 Calls Tryz.prog 9 #[.agg (xv (Value.int .i8) a0_0 [Ii a0_1,Ii a0_2,Ii a0_3,Ii a0_4,Ii a0_5,Ii a0_6,.bool a0_7,.bool a0_8,.bool a0_9,Ii a0_10,Ii a0_11])] w fun e w'=>e=.returned (.bool r1)∧Below w.heap.size w w':=by
 have LN_a0_0:=hid hla0_0
 clear hla0_0
 have HL:=hid (Below.refl w.heap.size w)
 have H:((Jw.f a0_4 a0_5 a0_6 a0_7).bind fun bt3=>(if bt3.2=true then ((QB.f k a0_0).bind fun t5=>(if t5=true then ((JK.f a0_1).bind fun t6=>(if t6≥0 then (if a0_2≥0 then (if a0_2≤15 then (if a0_3=(-1) then (if a0_10≥0 then (if a0_10≤1000 then (if a0_11≥(-1) then (some (decide (a0_11≤4))) else (some false)) else (some false)) else (some false)) else ((JD.f a0_3).bind fun t7=>(if t7=true then (if a0_10≥0 then (if a0_10≤1000 then (if a0_11≥(-1) then (some (decide (a0_11≤4))) else (some false)) else (some false)) else (some false)) else (some false)))) else (some false)) else (some false)) else (some false))) else (some false))) else (some false)))=some r1:=h
 clear h
 replace H:=Ia H
 obtain ⟨⟨t3,t4⟩,A8_,H⟩:=H
 dsimp only at H
 have A8:=hid A8_
 clear A8_
 cases t4 with
 |true=>
  rw [if_pos rfl] at H
  have H':=hid H
  clear H
  go_enter Tryz.func9,Tryz.ntmps9
  have k14:=True.intro
  go_wp2_with (first
   |((with_reducible refine Qa (N:=1) rfl ?_);obtain ⟨gb1,hgb1⟩:∃ g_,w.heap.size=g_:=⟨_,rfl⟩;refine Jx (xv (Value.int .i8) a0_0 [Ii a0_1,Ii a0_2,Ii a0_3,Ii a0_4,Ii a0_5,Ii a0_6,.bool a0_7,.bool a0_8,.bool a0_9,Ii a0_10,Ii a0_11]) gb1 hgb1 rfl _ rfl rfl ?_;intro w11 hb_ hB_ hs_;have GEb1:Hid (w.heap.size≤gb1):=hid (by have:=HL.out.size;omega);replace HL:=hid (HL.out.trans (hb_.mono GEb1.out));have BKb1:=hid hB_;clear hb_ hB_ hs_ hgb1)
   |((with_reducible refine Qa (N:=6) rfl ?_);refine Qb (Pg gb1 0) (Qc 30 0 (Pg gb1 0) (Pg gb1 0) (Xv gb1) _ rfl rfl) rfl ?_)
   |((with_reducible refine Qa (N:=7) rfl ?_);refine Qb (.agg (pv a0_0 a0_1 a0_2 a0_3)) (QI Qav gb1 0 (xv (Value.int .i8) a0_0 [Ii a0_1,Ii a0_2,Ii a0_3,Ii a0_4,Ii a0_5,Ii a0_6,.bool a0_7,.bool a0_8,.bool a0_9,Ii a0_10,Ii a0_11]) (pv a0_0 a0_1 a0_2 a0_3) BKb1.out (Qcx (n:=64) (c:=11) LN_a0_0.out rfl (m:=67) (by decide)) ((Qcy (n:=64) (c:=3) (m:=67) LN_a0_0.out (by simp) (by decide)).trans rfl) _ rfl rfl) rfl ?_)
   |((with_reducible refine Qa (N:=3) rfl ?_);obtain ⟨gb2,hgb2⟩:∃ g_,w11.heap.size=g_:=⟨_,rfl⟩;refine Qq Qav gb2 hgb2 rfl rfl ?_;intro w12 hb_ hB_ hs_;have GEb2:Hid (w.heap.size≤gb2):=hid (by have:=HL.out.size;omega);have NBb1_b2:Hid (gb1≠gb2):=hid (by have:=BKb1.out.lt;omega);have NBb2_b1:Hid (gb2≠gb1):=hid (by have:=NBb1_b2.out;omega);replace BKb1:=hid (BKb1.out.below hb_ (by rw [← hgb2];exact BKb1.out.lt));replace HL:=hid (HL.out.trans (hb_.mono GEb2.out));have BKb2:=hid hB_;clear hb_ hB_ hs_ hgb2)
   |((with_reducible refine Qf (t:=26) (p:=3) rfl ?_);refine Qg Qav gb2 0 (pv zL 0 0 0) (pv a0_0 a0_1 a0_2 a0_3) (pv a0_0 a0_1 a0_2 a0_3) BKb2.out (by rw [show (pv a0_0 a0_1 a0_2 a0_3)=xv (Value.int .i8) a0_0 [Ii a0_1,Ii a0_2,Ii a0_3] from rfl,QE,show a0_0.length=64 from LN_a0_0.out];rfl) (XX Qh 67 rfl) (XH (fun _=>rfl) (by intro v_ hv_;simp at hv_;rcases hv_ with rfl|rfl|rfl <;> rfl)) (XI Qh LN_a0_0.out rfl) rfl _ _ rfl rfl rfl ?_;intro w13 ho_ hB_;replace BKb1:=hid (BKb1.out.off ho_ NBb1_b2.out);replace HL:=hid (ho_.below HL.out GEb2.out);replace BKb2:=hid hB_;clear ho_ hB_)
   |((with_reducible refine Qa (N:=9) rfl ?_);refine Qb (Pg gb1 67) (Qc 30 1 (Pg gb1 0) (Pg gb1 67) (qm gb1) _ rfl rfl) rfl ?_)
   |((with_reducible refine Qa (N:=10) rfl ?_);refine Qb (.agg #[Ii a0_4,Ii a0_5,Ii a0_6,.bool a0_7]) (QI Zp gb1 67 (xv (Value.int .i8) a0_0 [Ii a0_1,Ii a0_2,Ii a0_3,Ii a0_4,Ii a0_5,Ii a0_6,.bool a0_7,.bool a0_8,.bool a0_9,Ii a0_10,Ii a0_11]) #[Ii a0_4,Ii a0_5,Ii a0_6,.bool a0_7] BKb1.out (qD (n:=64) (c:=11) LN_a0_0.out rfl (m:=71) (by decide)) (qE (n:=64) LN_a0_0.out 3 67 4 (by decide)) _ rfl rfl) rfl ?_)
   |(go_at_call 11;clear k14;refine (Jw.c a0_4 a0_5 a0_6 a0_7 t3 true _ A8.out).mono ?_;rintro e_ w15 ⟨rfl,hb_⟩;replace BKb1:=hid (BKb1.out.below hb_ BKb1.out.lt);replace BKb2:=hid (BKb2.out.below hb_ BKb2.out.lt);replace HL:=hid (HL.out.trans (hb_.mono HL.out.size));clear hb_)
   |((with_reducible refine Qa (N:=16) rfl ?_);refine Qb (Pg gb2 0) (Qc 26 0 (Pg gb2 0) (Pg gb2 0) (Qcw gb2) _ rfl rfl) rfl ?_)
   |((with_reducible refine Qa (N:=17) rfl ?_);refine Qb (.agg (bv a0_0)) (QI Jc gb2 0 (pv a0_0 a0_1 a0_2 a0_3) (bv a0_0) BKb2.out (zz LN_a0_0.out) (zA LN_a0_0.out) _ rfl rfl) rfl ?_))
  (try simp only [Act.put,sI,sZ,sS])
  have H:=H'.out
  clear H'
  replace H:=Ia H
  obtain ⟨t5,A10_,H⟩:=H
  have A10:=hid A10_
  clear A10_
  cases t5 with
  |true=>
   rw [if_pos rfl] at H
   have H':=hid H
   clear H
   have k18:=True.intro
   go_wp2_with (first
    |(go_at_call 25;clear k18;refine (QB.c k a0_0 LN_a0_0.out true _ A10.out).mono ?_;rintro e_ w19 ⟨rfl,hb_⟩;replace BKb1:=hid (BKb1.out.below hb_ BKb1.out.lt);replace BKb2:=hid (BKb2.out.below hb_ BKb2.out.lt);replace HL:=hid (HL.out.trans (hb_.mono HL.out.size));clear hb_)
    |((with_reducible refine Qa (N:=21) rfl ?_);refine Qb (Pg gb2 64) (Qc 26 1 (Pg gb2 0) (Pg gb2 64) (Ve gb2) _ rfl rfl) rfl ?_)
    |((with_reducible refine Qa (N:=22) rfl ?_);refine Qb (Ii a0_1) (Qd sT3 gb2 (64) (Ii a0_1) ((pv a0_0 a0_1 a0_2 a0_3)) BKb2.out ((Qi (n:=64) LN_a0_0.out 0 64 (by omega)).trans rfl) _ rfl rfl) rfl ?_))
   (try simp only [Act.put,sI,sZ,sS])
   have H:=H'.out
   clear H'
   replace H:=Ia H
   obtain ⟨t6,A17_,H⟩:=H
   have A17:=hid A17_
   clear A17_
   by_cases c20:t6≥0
   ·
    rw [if_pos c20] at H
    have c20b0:decide (0≤t6)=true:=decide_eq_true c20
    have hc20:=hid c20
    clear c20
    by_cases c21:a0_2≥0
    ·
     rw [if_pos c21] at H
     have c21b0:decide (0≤a0_2)=true:=decide_eq_true c21
     have hc21:=hid c21
     clear c21
     by_cases c22:a0_2≤15
     ·
      rw [if_pos c22] at H
      have c22b0:decide (a0_2≤15)=true:=decide_eq_true c22
      have hc22:=hid c22
      clear c22
      by_cases c23:a0_3=(-1)
      ·
       rw [if_pos c23] at H
       have c23b0:(a0_3==(-1))=true:=beq_iff_eq.mpr c23
       have c23b1:(a0_3 != (-1))=false:=bne_eq_false_iff_eq.mpr c23
       have hc23:=hid c23
       clear c23
       by_cases c24:a0_10≥0
       ·
        rw [if_pos c24] at H
        have c24b0:decide (0≤a0_10)=true:=decide_eq_true c24
        have hc24:=hid c24
        clear c24
        by_cases c25:a0_10≤1000
        ·
         rw [if_pos c25] at H
         have c25b0:decide (a0_10≤1000)=true:=decide_eq_true c25
         have hc25:=hid c25
         clear c25
         by_cases c26:a0_11≥(-1)
         ·
          rw [if_pos c26] at H
          have c26b0:decide ((-1)≤a0_11)=true:=decide_eq_true c26
          have hc26:=hid c26
          clear c26
          obtain rfl:=Option.some.inj H
          clear H
          have k27:=True.intro
          go_wp2_with (first
           |(go_at_call 26;clear k27;refine (JK.c a0_1 t6 _ A17.out).mono ?_;rintro e_ w' ⟨rfl,rfl⟩)
           |((with_reducible refine Qa (N:=27) rfl ?_);refine Qb (Pg gb2 65) (Qc 26 2 (Pg gb2 0) (Pg gb2 65) (ZT gb2) _ rfl rfl) rfl ?_)
           |((with_reducible refine Qa (N:=28) rfl ?_);refine Qb (Ii a0_2) (Qd sT3 gb2 (65) (Ii a0_2) ((pv a0_0 a0_1 a0_2 a0_3)) BKb2.out ((Qi (n:=64) LN_a0_0.out 1 65 (by omega)).trans rfl) _ rfl rfl) rfl ?_)
           |((with_reducible refine Qa (N:=32) rfl ?_);refine Qb (Pg gb2 65) (Qc 26 2 (Pg gb2 0) (Pg gb2 65) (ZT gb2) _ rfl rfl) rfl ?_)
           |((with_reducible refine Qa (N:=33) rfl ?_);refine Qb (Ii a0_2) (Qd sT3 gb2 (65) (Ii a0_2) ((pv a0_0 a0_1 a0_2 a0_3)) BKb2.out ((Qi (n:=64) LN_a0_0.out 1 65 (by omega)).trans rfl) _ rfl rfl) rfl ?_)
           |((with_reducible refine Qa (N:=37) rfl ?_);refine Qb (Pg gb2 66) (Qc 26 3 (Pg gb2 0) (Pg gb2 66) (XL gb2) _ rfl rfl) rfl ?_)
           |((with_reducible refine Qa (N:=38) rfl ?_);refine Qb (Ii a0_3) (Qd sT3 gb2 (66) (Ii a0_3) ((pv a0_0 a0_1 a0_2 a0_3)) BKb2.out ((Qi (n:=64) LN_a0_0.out 2 66 (by omega)).trans rfl) _ rfl rfl) rfl ?_)
           |((with_reducible refine Qa (N:=47) rfl ?_);refine Qb (Pg gb1 73) (Qc 30 4 (Pg gb1 0) (Pg gb1 73) (ZG gb1) _ rfl rfl) rfl ?_)
           |((with_reducible refine Qa (N:=48) rfl ?_);refine Qb (Ii a0_10) (Qd sT3 gb1 (73) (Ii a0_10) ((xv (Value.int .i8) a0_0 [Ii a0_1,Ii a0_2,Ii a0_3,Ii a0_4,Ii a0_5,Ii a0_6,.bool a0_7,.bool a0_8,.bool a0_9,Ii a0_10,Ii a0_11])) BKb1.out ((Qi (n:=64) LN_a0_0.out 9 73 (by omega)).trans rfl) _ rfl rfl) rfl ?_)
           |((with_reducible refine Qa (N:=52) rfl ?_);refine Qb (Pg gb1 73) (Qc 30 4 (Pg gb1 0) (Pg gb1 73) (ZG gb1) _ rfl rfl) rfl ?_)
           |((with_reducible refine Qa (N:=53) rfl ?_);refine Qb (Ii a0_10) (Qd sT3 gb1 (73) (Ii a0_10) ((xv (Value.int .i8) a0_0 [Ii a0_1,Ii a0_2,Ii a0_3,Ii a0_4,Ii a0_5,Ii a0_6,.bool a0_7,.bool a0_8,.bool a0_9,Ii a0_10,Ii a0_11])) BKb1.out ((Qi (n:=64) LN_a0_0.out 9 73 (by omega)).trans rfl) _ rfl rfl) rfl ?_)
           |((with_reducible refine Qa (N:=57) rfl ?_);refine Qb (Pg gb1 74) (Qc 30 5 (Pg gb1 0) (Pg gb1 74) (Kd gb1) _ rfl rfl) rfl ?_)
           |((with_reducible refine Qa (N:=58) rfl ?_);refine Qb (Ii a0_11) (Qd sT3 gb1 (74) (Ii a0_11) ((xv (Value.int .i8) a0_0 [Ii a0_1,Ii a0_2,Ii a0_3,Ii a0_4,Ii a0_5,Ii a0_6,.bool a0_7,.bool a0_8,.bool a0_9,Ii a0_10,Ii a0_11])) BKb1.out ((Qi (n:=64) LN_a0_0.out 10 74 (by omega)).trans rfl) _ rfl rfl) rfl ?_)
           |((with_reducible refine Qa (N:=62) rfl ?_);refine Qb (Pg gb1 74) (Qc 30 5 (Pg gb1 0) (Pg gb1 74) (Kd gb1) _ rfl rfl) rfl ?_)
           |((with_reducible refine Qa (N:=63) rfl ?_);refine Qb (Ii a0_11) (Qd sT3 gb1 (74) (Ii a0_11) ((xv (Value.int .i8) a0_0 [Ii a0_1,Ii a0_2,Ii a0_3,Ii a0_4,Ii a0_5,Ii a0_6,.bool a0_7,.bool a0_8,.bool a0_9,Ii a0_10,Ii a0_11])) BKb1.out ((Qi (n:=64) LN_a0_0.out 10 74 (by omega)).trans rfl) _ rfl rfl) rfl ?_))
          (try simp only [Act.put,sI,sZ,sS])
          go_ret
          exact ⟨by first|rfl|(simp;done)|(simp [*];done),HL.out⟩
         ·
          rw [if_neg c26] at H
          have c26b0:decide ((-1)≤a0_11)=false:=decide_eq_false c26
          have hc26:=hid c26
          clear c26
          obtain rfl:=Option.some.inj H
          clear H
          have k28:=True.intro
          go_wp2_with (first
           |(go_at_call 26;clear k28;refine (JK.c a0_1 t6 _ A17.out).mono ?_;rintro e_ w' ⟨rfl,rfl⟩)
           |((with_reducible refine Qa (N:=27) rfl ?_);refine Qb (Pg gb2 65) (Qc 26 2 (Pg gb2 0) (Pg gb2 65) (ZT gb2) _ rfl rfl) rfl ?_)
           |((with_reducible refine Qa (N:=28) rfl ?_);refine Qb (Ii a0_2) (Qd sT3 gb2 (65) (Ii a0_2) ((pv a0_0 a0_1 a0_2 a0_3)) BKb2.out ((Qi (n:=64) LN_a0_0.out 1 65 (by omega)).trans rfl) _ rfl rfl) rfl ?_)
           |((with_reducible refine Qa (N:=32) rfl ?_);refine Qb (Pg gb2 65) (Qc 26 2 (Pg gb2 0) (Pg gb2 65) (ZT gb2) _ rfl rfl) rfl ?_)
           |((with_reducible refine Qa (N:=33) rfl ?_);refine Qb (Ii a0_2) (Qd sT3 gb2 (65) (Ii a0_2) ((pv a0_0 a0_1 a0_2 a0_3)) BKb2.out ((Qi (n:=64) LN_a0_0.out 1 65 (by omega)).trans rfl) _ rfl rfl) rfl ?_)
           |((with_reducible refine Qa (N:=37) rfl ?_);refine Qb (Pg gb2 66) (Qc 26 3 (Pg gb2 0) (Pg gb2 66) (XL gb2) _ rfl rfl) rfl ?_)
           |((with_reducible refine Qa (N:=38) rfl ?_);refine Qb (Ii a0_3) (Qd sT3 gb2 (66) (Ii a0_3) ((pv a0_0 a0_1 a0_2 a0_3)) BKb2.out ((Qi (n:=64) LN_a0_0.out 2 66 (by omega)).trans rfl) _ rfl rfl) rfl ?_)
           |((with_reducible refine Qa (N:=47) rfl ?_);refine Qb (Pg gb1 73) (Qc 30 4 (Pg gb1 0) (Pg gb1 73) (ZG gb1) _ rfl rfl) rfl ?_)
           |((with_reducible refine Qa (N:=48) rfl ?_);refine Qb (Ii a0_10) (Qd sT3 gb1 (73) (Ii a0_10) ((xv (Value.int .i8) a0_0 [Ii a0_1,Ii a0_2,Ii a0_3,Ii a0_4,Ii a0_5,Ii a0_6,.bool a0_7,.bool a0_8,.bool a0_9,Ii a0_10,Ii a0_11])) BKb1.out ((Qi (n:=64) LN_a0_0.out 9 73 (by omega)).trans rfl) _ rfl rfl) rfl ?_)
           |((with_reducible refine Qa (N:=52) rfl ?_);refine Qb (Pg gb1 73) (Qc 30 4 (Pg gb1 0) (Pg gb1 73) (ZG gb1) _ rfl rfl) rfl ?_)
           |((with_reducible refine Qa (N:=53) rfl ?_);refine Qb (Ii a0_10) (Qd sT3 gb1 (73) (Ii a0_10) ((xv (Value.int .i8) a0_0 [Ii a0_1,Ii a0_2,Ii a0_3,Ii a0_4,Ii a0_5,Ii a0_6,.bool a0_7,.bool a0_8,.bool a0_9,Ii a0_10,Ii a0_11])) BKb1.out ((Qi (n:=64) LN_a0_0.out 9 73 (by omega)).trans rfl) _ rfl rfl) rfl ?_)
           |((with_reducible refine Qa (N:=57) rfl ?_);refine Qb (Pg gb1 74) (Qc 30 5 (Pg gb1 0) (Pg gb1 74) (Kd gb1) _ rfl rfl) rfl ?_)
           |((with_reducible refine Qa (N:=58) rfl ?_);refine Qb (Ii a0_11) (Qd sT3 gb1 (74) (Ii a0_11) ((xv (Value.int .i8) a0_0 [Ii a0_1,Ii a0_2,Ii a0_3,Ii a0_4,Ii a0_5,Ii a0_6,.bool a0_7,.bool a0_8,.bool a0_9,Ii a0_10,Ii a0_11])) BKb1.out ((Qi (n:=64) LN_a0_0.out 10 74 (by omega)).trans rfl) _ rfl rfl) rfl ?_))
          (try simp only [Act.put,sI,sZ,sS])
          go_ret
          exact ⟨by first|rfl|(simp;done)|(simp [*];done),HL.out⟩
        ·
         rw [if_neg c25] at H
         have c25b0:decide (a0_10≤1000)=false:=decide_eq_false c25
         have hc25:=hid c25
         clear c25
         obtain rfl:=Option.some.inj H
         clear H
         have k29:=True.intro
         go_wp2_with (first
          |(go_at_call 26;clear k29;refine (JK.c a0_1 t6 _ A17.out).mono ?_;rintro e_ w' ⟨rfl,rfl⟩)
          |((with_reducible refine Qa (N:=27) rfl ?_);refine Qb (Pg gb2 65) (Qc 26 2 (Pg gb2 0) (Pg gb2 65) (ZT gb2) _ rfl rfl) rfl ?_)
          |((with_reducible refine Qa (N:=28) rfl ?_);refine Qb (Ii a0_2) (Qd sT3 gb2 (65) (Ii a0_2) ((pv a0_0 a0_1 a0_2 a0_3)) BKb2.out ((Qi (n:=64) LN_a0_0.out 1 65 (by omega)).trans rfl) _ rfl rfl) rfl ?_)
          |((with_reducible refine Qa (N:=32) rfl ?_);refine Qb (Pg gb2 65) (Qc 26 2 (Pg gb2 0) (Pg gb2 65) (ZT gb2) _ rfl rfl) rfl ?_)
          |((with_reducible refine Qa (N:=33) rfl ?_);refine Qb (Ii a0_2) (Qd sT3 gb2 (65) (Ii a0_2) ((pv a0_0 a0_1 a0_2 a0_3)) BKb2.out ((Qi (n:=64) LN_a0_0.out 1 65 (by omega)).trans rfl) _ rfl rfl) rfl ?_)
          |((with_reducible refine Qa (N:=37) rfl ?_);refine Qb (Pg gb2 66) (Qc 26 3 (Pg gb2 0) (Pg gb2 66) (XL gb2) _ rfl rfl) rfl ?_)
          |((with_reducible refine Qa (N:=38) rfl ?_);refine Qb (Ii a0_3) (Qd sT3 gb2 (66) (Ii a0_3) ((pv a0_0 a0_1 a0_2 a0_3)) BKb2.out ((Qi (n:=64) LN_a0_0.out 2 66 (by omega)).trans rfl) _ rfl rfl) rfl ?_)
          |((with_reducible refine Qa (N:=47) rfl ?_);refine Qb (Pg gb1 73) (Qc 30 4 (Pg gb1 0) (Pg gb1 73) (ZG gb1) _ rfl rfl) rfl ?_)
          |((with_reducible refine Qa (N:=48) rfl ?_);refine Qb (Ii a0_10) (Qd sT3 gb1 (73) (Ii a0_10) ((xv (Value.int .i8) a0_0 [Ii a0_1,Ii a0_2,Ii a0_3,Ii a0_4,Ii a0_5,Ii a0_6,.bool a0_7,.bool a0_8,.bool a0_9,Ii a0_10,Ii a0_11])) BKb1.out ((Qi (n:=64) LN_a0_0.out 9 73 (by omega)).trans rfl) _ rfl rfl) rfl ?_)
          |((with_reducible refine Qa (N:=52) rfl ?_);refine Qb (Pg gb1 73) (Qc 30 4 (Pg gb1 0) (Pg gb1 73) (ZG gb1) _ rfl rfl) rfl ?_)
          |((with_reducible refine Qa (N:=53) rfl ?_);refine Qb (Ii a0_10) (Qd sT3 gb1 (73) (Ii a0_10) ((xv (Value.int .i8) a0_0 [Ii a0_1,Ii a0_2,Ii a0_3,Ii a0_4,Ii a0_5,Ii a0_6,.bool a0_7,.bool a0_8,.bool a0_9,Ii a0_10,Ii a0_11])) BKb1.out ((Qi (n:=64) LN_a0_0.out 9 73 (by omega)).trans rfl) _ rfl rfl) rfl ?_))
         (try simp only [Act.put,sI,sZ,sS])
         go_ret
         exact ⟨by first|rfl|(simp;done)|(simp [*];done),HL.out⟩
       ·
        rw [if_neg c24] at H
        have c24b0:decide (0≤a0_10)=false:=decide_eq_false c24
        have hc24:=hid c24
        clear c24
        obtain rfl:=Option.some.inj H
        clear H
        have k30:=True.intro
        go_wp2_with (first
         |(go_at_call 26;clear k30;refine (JK.c a0_1 t6 _ A17.out).mono ?_;rintro e_ w' ⟨rfl,rfl⟩)
         |((with_reducible refine Qa (N:=27) rfl ?_);refine Qb (Pg gb2 65) (Qc 26 2 (Pg gb2 0) (Pg gb2 65) (ZT gb2) _ rfl rfl) rfl ?_)
         |((with_reducible refine Qa (N:=28) rfl ?_);refine Qb (Ii a0_2) (Qd sT3 gb2 (65) (Ii a0_2) ((pv a0_0 a0_1 a0_2 a0_3)) BKb2.out ((Qi (n:=64) LN_a0_0.out 1 65 (by omega)).trans rfl) _ rfl rfl) rfl ?_)
         |((with_reducible refine Qa (N:=32) rfl ?_);refine Qb (Pg gb2 65) (Qc 26 2 (Pg gb2 0) (Pg gb2 65) (ZT gb2) _ rfl rfl) rfl ?_)
         |((with_reducible refine Qa (N:=33) rfl ?_);refine Qb (Ii a0_2) (Qd sT3 gb2 (65) (Ii a0_2) ((pv a0_0 a0_1 a0_2 a0_3)) BKb2.out ((Qi (n:=64) LN_a0_0.out 1 65 (by omega)).trans rfl) _ rfl rfl) rfl ?_)
         |((with_reducible refine Qa (N:=37) rfl ?_);refine Qb (Pg gb2 66) (Qc 26 3 (Pg gb2 0) (Pg gb2 66) (XL gb2) _ rfl rfl) rfl ?_)
         |((with_reducible refine Qa (N:=38) rfl ?_);refine Qb (Ii a0_3) (Qd sT3 gb2 (66) (Ii a0_3) ((pv a0_0 a0_1 a0_2 a0_3)) BKb2.out ((Qi (n:=64) LN_a0_0.out 2 66 (by omega)).trans rfl) _ rfl rfl) rfl ?_)
         |((with_reducible refine Qa (N:=47) rfl ?_);refine Qb (Pg gb1 73) (Qc 30 4 (Pg gb1 0) (Pg gb1 73) (ZG gb1) _ rfl rfl) rfl ?_)
         |((with_reducible refine Qa (N:=48) rfl ?_);refine Qb (Ii a0_10) (Qd sT3 gb1 (73) (Ii a0_10) ((xv (Value.int .i8) a0_0 [Ii a0_1,Ii a0_2,Ii a0_3,Ii a0_4,Ii a0_5,Ii a0_6,.bool a0_7,.bool a0_8,.bool a0_9,Ii a0_10,Ii a0_11])) BKb1.out ((Qi (n:=64) LN_a0_0.out 9 73 (by omega)).trans rfl) _ rfl rfl) rfl ?_))
        (try simp only [Act.put,sI,sZ,sS])
        go_ret
        exact ⟨by first|rfl|(simp;done)|(simp [*];done),HL.out⟩
      ·
       rw [if_neg c23] at H
       have c23b0:(a0_3==(-1))=false:=beq_eq_false_iff_ne.mpr c23
       have c23b1:(a0_3 != (-1))=true:=bne_iff_ne.mpr c23
       have hc23:=hid c23
       clear c23
       have H':=hid H
       clear H
       have k32:=True.intro
       go_wp2_with (first
        |(go_at_call 26;clear k32;refine (JK.c a0_1 t6 _ A17.out).mono ?_;rintro e_ w' ⟨rfl,rfl⟩)
        |((with_reducible refine Qa (N:=27) rfl ?_);refine Qb (Pg gb2 65) (Qc 26 2 (Pg gb2 0) (Pg gb2 65) (ZT gb2) _ rfl rfl) rfl ?_)
        |((with_reducible refine Qa (N:=28) rfl ?_);refine Qb (Ii a0_2) (Qd sT3 gb2 (65) (Ii a0_2) ((pv a0_0 a0_1 a0_2 a0_3)) BKb2.out ((Qi (n:=64) LN_a0_0.out 1 65 (by omega)).trans rfl) _ rfl rfl) rfl ?_)
        |((with_reducible refine Qa (N:=32) rfl ?_);refine Qb (Pg gb2 65) (Qc 26 2 (Pg gb2 0) (Pg gb2 65) (ZT gb2) _ rfl rfl) rfl ?_)
        |((with_reducible refine Qa (N:=33) rfl ?_);refine Qb (Ii a0_2) (Qd sT3 gb2 (65) (Ii a0_2) ((pv a0_0 a0_1 a0_2 a0_3)) BKb2.out ((Qi (n:=64) LN_a0_0.out 1 65 (by omega)).trans rfl) _ rfl rfl) rfl ?_)
        |((with_reducible refine Qa (N:=37) rfl ?_);refine Qb (Pg gb2 66) (Qc 26 3 (Pg gb2 0) (Pg gb2 66) (XL gb2) _ rfl rfl) rfl ?_)
        |((with_reducible refine Qa (N:=38) rfl ?_);refine Qb (Ii a0_3) (Qd sT3 gb2 (66) (Ii a0_3) ((pv a0_0 a0_1 a0_2 a0_3)) BKb2.out ((Qi (n:=64) LN_a0_0.out 2 66 (by omega)).trans rfl) _ rfl rfl) rfl ?_)
        |((with_reducible refine Qa (N:=41) rfl ?_);refine Qb (Pg gb2 66) (Qc 26 3 (Pg gb2 0) (Pg gb2 66) (XL gb2) _ rfl rfl) rfl ?_)
        |((with_reducible refine Qa (N:=42) rfl ?_);refine Qb (Ii a0_3) (Qd sT3 gb2 (66) (Ii a0_3) ((pv a0_0 a0_1 a0_2 a0_3)) BKb2.out ((Qi (n:=64) LN_a0_0.out 2 66 (by omega)).trans rfl) _ rfl rfl) rfl ?_))
       (try simp only [Act.put,sI,sZ,sS])
       have H:=H'.out
       clear H'
       replace H:=Ia H
       obtain ⟨t7,A31_,H⟩:=H
       have A31:=hid A31_
       clear A31_
       cases t7 with
       |true=>
        rw [if_pos rfl] at H
        by_cases c34:a0_10≥0
        ·
         rw [if_pos c34] at H
         have c34b0:decide (0≤a0_10)=true:=decide_eq_true c34
         have hc34:=hid c34
         clear c34
         by_cases c35:a0_10≤1000
         ·
          rw [if_pos c35] at H
          have c35b0:decide (a0_10≤1000)=true:=decide_eq_true c35
          have hc35:=hid c35
          clear c35
          by_cases c36:a0_11≥(-1)
          ·
           rw [if_pos c36] at H
           have c36b0:decide ((-1)≤a0_11)=true:=decide_eq_true c36
           have hc36:=hid c36
           clear c36
           obtain rfl:=Option.some.inj H
           clear H
           have k37:=True.intro
           go_wp2_with (first
            |(go_at_call 27;clear k37;refine (JD.c a0_3 true _ A31.out).mono ?_;rintro e_ w' ⟨rfl,rfl⟩)
            |((with_reducible refine Qa (N:=47) rfl ?_);refine Qb (Pg gb1 73) (Qc 30 4 (Pg gb1 0) (Pg gb1 73) (ZG gb1) _ rfl rfl) rfl ?_)
            |((with_reducible refine Qa (N:=48) rfl ?_);refine Qb (Ii a0_10) (Qd sT3 gb1 (73) (Ii a0_10) ((xv (Value.int .i8) a0_0 [Ii a0_1,Ii a0_2,Ii a0_3,Ii a0_4,Ii a0_5,Ii a0_6,.bool a0_7,.bool a0_8,.bool a0_9,Ii a0_10,Ii a0_11])) BKb1.out ((Qi (n:=64) LN_a0_0.out 9 73 (by omega)).trans rfl) _ rfl rfl) rfl ?_)
            |((with_reducible refine Qa (N:=52) rfl ?_);refine Qb (Pg gb1 73) (Qc 30 4 (Pg gb1 0) (Pg gb1 73) (ZG gb1) _ rfl rfl) rfl ?_)
            |((with_reducible refine Qa (N:=53) rfl ?_);refine Qb (Ii a0_10) (Qd sT3 gb1 (73) (Ii a0_10) ((xv (Value.int .i8) a0_0 [Ii a0_1,Ii a0_2,Ii a0_3,Ii a0_4,Ii a0_5,Ii a0_6,.bool a0_7,.bool a0_8,.bool a0_9,Ii a0_10,Ii a0_11])) BKb1.out ((Qi (n:=64) LN_a0_0.out 9 73 (by omega)).trans rfl) _ rfl rfl) rfl ?_)
            |((with_reducible refine Qa (N:=57) rfl ?_);refine Qb (Pg gb1 74) (Qc 30 5 (Pg gb1 0) (Pg gb1 74) (Kd gb1) _ rfl rfl) rfl ?_)
            |((with_reducible refine Qa (N:=58) rfl ?_);refine Qb (Ii a0_11) (Qd sT3 gb1 (74) (Ii a0_11) ((xv (Value.int .i8) a0_0 [Ii a0_1,Ii a0_2,Ii a0_3,Ii a0_4,Ii a0_5,Ii a0_6,.bool a0_7,.bool a0_8,.bool a0_9,Ii a0_10,Ii a0_11])) BKb1.out ((Qi (n:=64) LN_a0_0.out 10 74 (by omega)).trans rfl) _ rfl rfl) rfl ?_)
            |((with_reducible refine Qa (N:=62) rfl ?_);refine Qb (Pg gb1 74) (Qc 30 5 (Pg gb1 0) (Pg gb1 74) (Kd gb1) _ rfl rfl) rfl ?_)
            |((with_reducible refine Qa (N:=63) rfl ?_);refine Qb (Ii a0_11) (Qd sT3 gb1 (74) (Ii a0_11) ((xv (Value.int .i8) a0_0 [Ii a0_1,Ii a0_2,Ii a0_3,Ii a0_4,Ii a0_5,Ii a0_6,.bool a0_7,.bool a0_8,.bool a0_9,Ii a0_10,Ii a0_11])) BKb1.out ((Qi (n:=64) LN_a0_0.out 10 74 (by omega)).trans rfl) _ rfl rfl) rfl ?_))
           (try simp only [Act.put,sI,sZ,sS])
           go_ret
           exact ⟨by first|rfl|(simp;done)|(simp [*];done),HL.out⟩
          ·
           rw [if_neg c36] at H
           have c36b0:decide ((-1)≤a0_11)=false:=decide_eq_false c36
           have hc36:=hid c36
           clear c36
           obtain rfl:=Option.some.inj H
           clear H
           have k38:=True.intro
           go_wp2_with (first
            |(go_at_call 27;clear k38;refine (JD.c a0_3 true _ A31.out).mono ?_;rintro e_ w' ⟨rfl,rfl⟩)
            |((with_reducible refine Qa (N:=47) rfl ?_);refine Qb (Pg gb1 73) (Qc 30 4 (Pg gb1 0) (Pg gb1 73) (ZG gb1) _ rfl rfl) rfl ?_)
            |((with_reducible refine Qa (N:=48) rfl ?_);refine Qb (Ii a0_10) (Qd sT3 gb1 (73) (Ii a0_10) ((xv (Value.int .i8) a0_0 [Ii a0_1,Ii a0_2,Ii a0_3,Ii a0_4,Ii a0_5,Ii a0_6,.bool a0_7,.bool a0_8,.bool a0_9,Ii a0_10,Ii a0_11])) BKb1.out ((Qi (n:=64) LN_a0_0.out 9 73 (by omega)).trans rfl) _ rfl rfl) rfl ?_)
            |((with_reducible refine Qa (N:=52) rfl ?_);refine Qb (Pg gb1 73) (Qc 30 4 (Pg gb1 0) (Pg gb1 73) (ZG gb1) _ rfl rfl) rfl ?_)
            |((with_reducible refine Qa (N:=53) rfl ?_);refine Qb (Ii a0_10) (Qd sT3 gb1 (73) (Ii a0_10) ((xv (Value.int .i8) a0_0 [Ii a0_1,Ii a0_2,Ii a0_3,Ii a0_4,Ii a0_5,Ii a0_6,.bool a0_7,.bool a0_8,.bool a0_9,Ii a0_10,Ii a0_11])) BKb1.out ((Qi (n:=64) LN_a0_0.out 9 73 (by omega)).trans rfl) _ rfl rfl) rfl ?_)
            |((with_reducible refine Qa (N:=57) rfl ?_);refine Qb (Pg gb1 74) (Qc 30 5 (Pg gb1 0) (Pg gb1 74) (Kd gb1) _ rfl rfl) rfl ?_)
            |((with_reducible refine Qa (N:=58) rfl ?_);refine Qb (Ii a0_11) (Qd sT3 gb1 (74) (Ii a0_11) ((xv (Value.int .i8) a0_0 [Ii a0_1,Ii a0_2,Ii a0_3,Ii a0_4,Ii a0_5,Ii a0_6,.bool a0_7,.bool a0_8,.bool a0_9,Ii a0_10,Ii a0_11])) BKb1.out ((Qi (n:=64) LN_a0_0.out 10 74 (by omega)).trans rfl) _ rfl rfl) rfl ?_))
           (try simp only [Act.put,sI,sZ,sS])
           go_ret
           exact ⟨by first|rfl|(simp;done)|(simp [*];done),HL.out⟩
         ·
          rw [if_neg c35] at H
          have c35b0:decide (a0_10≤1000)=false:=decide_eq_false c35
          have hc35:=hid c35
          clear c35
          obtain rfl:=Option.some.inj H
          clear H
          have k39:=True.intro
          go_wp2_with (first
           |(go_at_call 27;clear k39;refine (JD.c a0_3 true _ A31.out).mono ?_;rintro e_ w' ⟨rfl,rfl⟩)
           |((with_reducible refine Qa (N:=47) rfl ?_);refine Qb (Pg gb1 73) (Qc 30 4 (Pg gb1 0) (Pg gb1 73) (ZG gb1) _ rfl rfl) rfl ?_)
           |((with_reducible refine Qa (N:=48) rfl ?_);refine Qb (Ii a0_10) (Qd sT3 gb1 (73) (Ii a0_10) ((xv (Value.int .i8) a0_0 [Ii a0_1,Ii a0_2,Ii a0_3,Ii a0_4,Ii a0_5,Ii a0_6,.bool a0_7,.bool a0_8,.bool a0_9,Ii a0_10,Ii a0_11])) BKb1.out ((Qi (n:=64) LN_a0_0.out 9 73 (by omega)).trans rfl) _ rfl rfl) rfl ?_)
           |((with_reducible refine Qa (N:=52) rfl ?_);refine Qb (Pg gb1 73) (Qc 30 4 (Pg gb1 0) (Pg gb1 73) (ZG gb1) _ rfl rfl) rfl ?_)
           |((with_reducible refine Qa (N:=53) rfl ?_);refine Qb (Ii a0_10) (Qd sT3 gb1 (73) (Ii a0_10) ((xv (Value.int .i8) a0_0 [Ii a0_1,Ii a0_2,Ii a0_3,Ii a0_4,Ii a0_5,Ii a0_6,.bool a0_7,.bool a0_8,.bool a0_9,Ii a0_10,Ii a0_11])) BKb1.out ((Qi (n:=64) LN_a0_0.out 9 73 (by omega)).trans rfl) _ rfl rfl) rfl ?_))
          (try simp only [Act.put,sI,sZ,sS])
          go_ret
          exact ⟨by first|rfl|(simp;done)|(simp [*];done),HL.out⟩
        ·
         rw [if_neg c34] at H
         have c34b0:decide (0≤a0_10)=false:=decide_eq_false c34
         have hc34:=hid c34
         clear c34
         obtain rfl:=Option.some.inj H
         clear H
         have k40:=True.intro
         go_wp2_with (first
          |(go_at_call 27;clear k40;refine (JD.c a0_3 true _ A31.out).mono ?_;rintro e_ w' ⟨rfl,rfl⟩)
          |((with_reducible refine Qa (N:=47) rfl ?_);refine Qb (Pg gb1 73) (Qc 30 4 (Pg gb1 0) (Pg gb1 73) (ZG gb1) _ rfl rfl) rfl ?_)
          |((with_reducible refine Qa (N:=48) rfl ?_);refine Qb (Ii a0_10) (Qd sT3 gb1 (73) (Ii a0_10) ((xv (Value.int .i8) a0_0 [Ii a0_1,Ii a0_2,Ii a0_3,Ii a0_4,Ii a0_5,Ii a0_6,.bool a0_7,.bool a0_8,.bool a0_9,Ii a0_10,Ii a0_11])) BKb1.out ((Qi (n:=64) LN_a0_0.out 9 73 (by omega)).trans rfl) _ rfl rfl) rfl ?_))
         (try simp only [Act.put,sI,sZ,sS])
         go_ret
         exact ⟨by first|rfl|(simp;done)|(simp [*];done),HL.out⟩
       |false=>
        rw [if_neg (show ¬ (false=true) by decide)] at H
        obtain rfl:=Option.some.inj H
        clear H
        have k41:=True.intro
        go_wp2_with (first
         |(go_at_call 27;clear k41;refine (JD.c a0_3 false _ A31.out).mono ?_;rintro e_ w' ⟨rfl,rfl⟩))
        (try simp only [Act.put,sI,sZ,sS])
        go_ret
        exact ⟨by first|rfl|(simp;done)|(simp [*];done),HL.out⟩
     ·
      rw [if_neg c22] at H
      have c22b0:decide (a0_2≤15)=false:=decide_eq_false c22
      have hc22:=hid c22
      clear c22
      obtain rfl:=Option.some.inj H
      clear H
      have k42:=True.intro
      go_wp2_with (first
       |(go_at_call 26;clear k42;refine (JK.c a0_1 t6 _ A17.out).mono ?_;rintro e_ w' ⟨rfl,rfl⟩)
       |((with_reducible refine Qa (N:=27) rfl ?_);refine Qb (Pg gb2 65) (Qc 26 2 (Pg gb2 0) (Pg gb2 65) (ZT gb2) _ rfl rfl) rfl ?_)
       |((with_reducible refine Qa (N:=28) rfl ?_);refine Qb (Ii a0_2) (Qd sT3 gb2 (65) (Ii a0_2) ((pv a0_0 a0_1 a0_2 a0_3)) BKb2.out ((Qi (n:=64) LN_a0_0.out 1 65 (by omega)).trans rfl) _ rfl rfl) rfl ?_)
       |((with_reducible refine Qa (N:=32) rfl ?_);refine Qb (Pg gb2 65) (Qc 26 2 (Pg gb2 0) (Pg gb2 65) (ZT gb2) _ rfl rfl) rfl ?_)
       |((with_reducible refine Qa (N:=33) rfl ?_);refine Qb (Ii a0_2) (Qd sT3 gb2 (65) (Ii a0_2) ((pv a0_0 a0_1 a0_2 a0_3)) BKb2.out ((Qi (n:=64) LN_a0_0.out 1 65 (by omega)).trans rfl) _ rfl rfl) rfl ?_))
      (try simp only [Act.put,sI,sZ,sS])
      go_ret
      exact ⟨by first|rfl|(simp;done)|(simp [*];done),HL.out⟩
    ·
     rw [if_neg c21] at H
     have c21b0:decide (0≤a0_2)=false:=decide_eq_false c21
     have hc21:=hid c21
     clear c21
     obtain rfl:=Option.some.inj H
     clear H
     have k43:=True.intro
     go_wp2_with (first
      |(go_at_call 26;clear k43;refine (JK.c a0_1 t6 _ A17.out).mono ?_;rintro e_ w' ⟨rfl,rfl⟩)
      |((with_reducible refine Qa (N:=27) rfl ?_);refine Qb (Pg gb2 65) (Qc 26 2 (Pg gb2 0) (Pg gb2 65) (ZT gb2) _ rfl rfl) rfl ?_)
      |((with_reducible refine Qa (N:=28) rfl ?_);refine Qb (Ii a0_2) (Qd sT3 gb2 (65) (Ii a0_2) ((pv a0_0 a0_1 a0_2 a0_3)) BKb2.out ((Qi (n:=64) LN_a0_0.out 1 65 (by omega)).trans rfl) _ rfl rfl) rfl ?_))
     (try simp only [Act.put,sI,sZ,sS])
     go_ret
     exact ⟨by first|rfl|(simp;done)|(simp [*];done),HL.out⟩
   ·
    rw [if_neg c20] at H
    have c20b0:decide (0≤t6)=false:=decide_eq_false c20
    have hc20:=hid c20
    clear c20
    obtain rfl:=Option.some.inj H
    clear H
    have k44:=True.intro
    go_wp2_with (first
     |(go_at_call 26;clear k44;refine (JK.c a0_1 t6 _ A17.out).mono ?_;rintro e_ w' ⟨rfl,rfl⟩))
    (try simp only [Act.put,sI,sZ,sS])
    go_ret
    exact ⟨by first|rfl|(simp;done)|(simp [*];done),HL.out⟩
  |false=>
   rw [if_neg (show ¬ (false=true) by decide)] at H
   obtain rfl:=Option.some.inj H
   clear H
   have k45:=True.intro
   go_wp2_with (first
    |(go_at_call 25;clear k45;refine (QB.c k a0_0 LN_a0_0.out false _ A10.out).mono ?_;rintro e_ w46 ⟨rfl,hb_⟩;replace BKb1:=hid (BKb1.out.below hb_ BKb1.out.lt);replace BKb2:=hid (BKb2.out.below hb_ BKb2.out.lt);replace HL:=hid (HL.out.trans (hb_.mono HL.out.size));clear hb_))
   (try simp only [Act.put,sI,sZ,sS])
   go_ret
   exact ⟨by first|rfl|(simp;done)|(simp [*];done),HL.out⟩
 |false=>
  rw [if_neg (show ¬ (false=true) by decide)] at H
  obtain rfl:=Option.some.inj H
  clear H
  go_enter Tryz.func9,Tryz.ntmps9
  have k50:=True.intro
  go_wp2_with (first
   |((with_reducible refine Qa (N:=1) rfl ?_);obtain ⟨gb1,hgb1⟩:∃ g_,w.heap.size=g_:=⟨_,rfl⟩;refine Jx (xv (Value.int .i8) a0_0 [Ii a0_1,Ii a0_2,Ii a0_3,Ii a0_4,Ii a0_5,Ii a0_6,.bool a0_7,.bool a0_8,.bool a0_9,Ii a0_10,Ii a0_11]) gb1 hgb1 rfl _ rfl rfl ?_;intro w47 hb_ hB_ hs_;have GEb1:Hid (w.heap.size≤gb1):=hid (by have:=HL.out.size;omega);replace HL:=hid (HL.out.trans (hb_.mono GEb1.out));have BKb1:=hid hB_;clear hb_ hB_ hs_ hgb1)
   |((with_reducible refine Qa (N:=6) rfl ?_);refine Qb (Pg gb1 0) (Qc 30 0 (Pg gb1 0) (Pg gb1 0) (Xv gb1) _ rfl rfl) rfl ?_)
   |((with_reducible refine Qa (N:=7) rfl ?_);refine Qb (.agg (pv a0_0 a0_1 a0_2 a0_3)) (QI Qav gb1 0 (xv (Value.int .i8) a0_0 [Ii a0_1,Ii a0_2,Ii a0_3,Ii a0_4,Ii a0_5,Ii a0_6,.bool a0_7,.bool a0_8,.bool a0_9,Ii a0_10,Ii a0_11]) (pv a0_0 a0_1 a0_2 a0_3) BKb1.out (Qcx (n:=64) (c:=11) LN_a0_0.out rfl (m:=67) (by decide)) ((Qcy (n:=64) (c:=3) (m:=67) LN_a0_0.out (by simp) (by decide)).trans rfl) _ rfl rfl) rfl ?_)
   |((with_reducible refine Qa (N:=3) rfl ?_);obtain ⟨gb2,hgb2⟩:∃ g_,w47.heap.size=g_:=⟨_,rfl⟩;refine Qq Qav gb2 hgb2 rfl rfl ?_;intro w48 hb_ hB_ hs_;have GEb2:Hid (w.heap.size≤gb2):=hid (by have:=HL.out.size;omega);have NBb1_b2:Hid (gb1≠gb2):=hid (by have:=BKb1.out.lt;omega);have NBb2_b1:Hid (gb2≠gb1):=hid (by have:=NBb1_b2.out;omega);replace BKb1:=hid (BKb1.out.below hb_ (by rw [← hgb2];exact BKb1.out.lt));replace HL:=hid (HL.out.trans (hb_.mono GEb2.out));have BKb2:=hid hB_;clear hb_ hB_ hs_ hgb2)
   |((with_reducible refine Qf (t:=26) (p:=3) rfl ?_);refine Qg Qav gb2 0 (pv zL 0 0 0) (pv a0_0 a0_1 a0_2 a0_3) (pv a0_0 a0_1 a0_2 a0_3) BKb2.out (by rw [show (pv a0_0 a0_1 a0_2 a0_3)=xv (Value.int .i8) a0_0 [Ii a0_1,Ii a0_2,Ii a0_3] from rfl,QE,show a0_0.length=64 from LN_a0_0.out];rfl) (XX Qh 67 rfl) (XH (fun _=>rfl) (by intro v_ hv_;simp at hv_;rcases hv_ with rfl|rfl|rfl <;> rfl)) (XI Qh LN_a0_0.out rfl) rfl _ _ rfl rfl rfl ?_;intro w49 ho_ hB_;replace BKb1:=hid (BKb1.out.off ho_ NBb1_b2.out);replace HL:=hid (ho_.below HL.out GEb2.out);replace BKb2:=hid hB_;clear ho_ hB_)
   |((with_reducible refine Qa (N:=9) rfl ?_);refine Qb (Pg gb1 67) (Qc 30 1 (Pg gb1 0) (Pg gb1 67) (qm gb1) _ rfl rfl) rfl ?_)
   |((with_reducible refine Qa (N:=10) rfl ?_);refine Qb (.agg #[Ii a0_4,Ii a0_5,Ii a0_6,.bool a0_7]) (QI Zp gb1 67 (xv (Value.int .i8) a0_0 [Ii a0_1,Ii a0_2,Ii a0_3,Ii a0_4,Ii a0_5,Ii a0_6,.bool a0_7,.bool a0_8,.bool a0_9,Ii a0_10,Ii a0_11]) #[Ii a0_4,Ii a0_5,Ii a0_6,.bool a0_7] BKb1.out (qD (n:=64) (c:=11) LN_a0_0.out rfl (m:=71) (by decide)) (qE (n:=64) LN_a0_0.out 3 67 4 (by decide)) _ rfl rfl) rfl ?_)
   |(go_at_call 11;clear k50;refine (Jw.c a0_4 a0_5 a0_6 a0_7 t3 false _ A8.out).mono ?_;rintro e_ w51 ⟨rfl,hb_⟩;replace BKb1:=hid (BKb1.out.below hb_ BKb1.out.lt);replace BKb2:=hid (BKb2.out.below hb_ BKb2.out.lt);replace HL:=hid (HL.out.trans (hb_.mono HL.out.size));clear hb_))
  (try simp only [Act.put,sI,sZ,sS])
  go_ret
  exact ⟨by first|rfl|(simp;done)|(simp [*];done),HL.out⟩
def Ji.l0:Nat→Int→ByteArray→Int→Option (ByteArray)
 |0,_,_,_=>none
 |k+1,a0,x3_0,x5_0=>if x5_0<4 then (if 0≤x5_0 then (if x5_0≤64 then ((some (a0/2^x5_0.toNat)).bind fun s2=>(if (Go.bits .and .i64 s2 1)=0 then (Ji.l0 k a0 x3_0 (wrap64 (x5_0+1))) else (if x5_0≤(wrap64 (x5_0+1)) then (if (wrap64 (x5_0+1))≤4 then (if x3_0.size+((⟨#[75,81,107,113]⟩:ByteArray).extract (x5_0:Int).toNat ((wrap64 (x5_0+1)):Int).toNat).size≤9223372036854775807 then (Ji.l0 k a0 (x3_0++((⟨#[75,81,107,113]⟩:ByteArray).extract (x5_0:Int).toNat ((wrap64 (x5_0+1)):Int).toNat)) (wrap64 (x5_0+1))) else (none)) else (none)) else (none)))) else (none)) else (none)) else (some x3_0)
def Ji.f(k:Nat)(a0:Int):Option (ByteArray):=Ji.l0 k a0 (⟨#[]⟩:ByteArray) 0
theorem Ji.c(k:Nat)(a0:Int)(r1:ByteArray)(w:World)(h:Ji.f k a0=some r1):
 Calls Tryz.prog 15 #[Ii a0] w fun e w'=>e=.returned (.string r1)∧w=w':=by
 have H:(Ji.l0 k a0 (⟨#[]⟩:ByteArray) 0)=some r1:=h
 clear h
 have H':=hid H
 clear H
 go_enter Tryz.func15,Tryz.ntmps15
 go_wp2_with fail
 (try simp only [Act.put,sI,sZ,sS])
 go_loopg [3,5] k (fun kq v3 v5 w'=>∃ (x3_0:ByteArray) (x5_0:Int),v3=.string x3_0∧v5=Ii x5_0∧Hid (Ji.l0 kq a0 x3_0 x5_0=some r1)∧Hid (kq≤k)∧w=w')
 case atStart=>exact ⟨(⟨#[]⟩:ByteArray),(0:Int),(by first|rfl|(simp;done)|(simp [*];done)),(by first|rfl|(simp;done)|(simp [*];done)),H',(hid (by first|omega|(omega))),rfl⟩
 case round=>
  clear H'
  skip
  obtain ⟨x3_0,x5_0,rfl,rfl,HA,HK3,rfl⟩:=hrel
  cases gk with
  |zero=>exact absurd HA.out (by simp [Ji.l0])
  |succ k4=>
   have H:=HA.out
   clear HA
   simp only [Ji.l0] at H
   by_cases c5:x5_0<4
   ·
    rw [if_pos c5] at H
    have c5b0:decide (x5_0<4)=true:=decide_eq_true c5
    have hc5:=hid c5
    clear c5
    by_cases c6:0≤x5_0
    ·
     rw [if_pos c6] at H
     have c6b0:decide (0≤x5_0)=true:=decide_eq_true c6
     have hc6:=hid c6
     clear c6
     by_cases c7:x5_0≤64
     ·
      rw [if_pos c7] at H
      have c7b0:decide (x5_0≤64)=true:=decide_eq_true c7
      have hc7:=hid c7
      clear c7
      replace H:=Ia H
      obtain ⟨s2,A8_,H⟩:=H
      have A8:=hid A8_
      clear A8_
      by_cases c9:(Go.bits .and .i64 s2 1)=0
      ·
       rw [if_pos c9] at H
       have c9b0:((Go.bits .and .i64 s2 1)==0)=true:=beq_iff_eq.mpr c9
       have c9b1:((Go.bits .and .i64 s2 1) != 0)=false:=bne_eq_false_iff_eq.mpr c9
       have hc9:=hid c9
       clear c9
       have H':=hid H
       clear H
       go_wp2_with (first
        |((with_reducible refine Qa (N:=10) rfl ?_);refine Qb (Ii s2) ((Qcg (k:=.i64) (yk:=.i64) a0 x5_0 hc6.out hc7.out _ _ _ _ rfl rfl rfl).trans (by rw [Option.some.inj A8.out])) rfl ?_))
       (try simp only [Act.put,sI,sZ,sS])
       go_roundg k4
       case measure=>have:=HK3.out;omega
       case rel=>exact ⟨x3_0,wrap64 (x5_0+1),(by first|rfl|(simp;done)|(simp [*];done)),(by first|rfl|(simp;done)|(simp [*];done)),H',(hid (by first|omega|(have:=HK3.out;omega))),rfl⟩
      ·
       rw [if_neg c9] at H
       have c9b0:((Go.bits .and .i64 s2 1)==0)=false:=beq_eq_false_iff_ne.mpr c9
       have c9b1:((Go.bits .and .i64 s2 1) != 0)=true:=bne_iff_ne.mpr c9
       have hc9:=hid c9
       clear c9
       by_cases c10:x5_0≤(wrap64 (x5_0+1))
       ·
        rw [if_pos c10] at H
        have c10b0:decide (x5_0≤(wrap64 (x5_0+1)))=true:=decide_eq_true c10
        have hc10:=hid c10
        clear c10
        by_cases c11:(wrap64 (x5_0+1))≤4
        ·
         rw [if_pos c11] at H
         have c11b0:decide ((wrap64 (x5_0+1))≤4)=true:=decide_eq_true c11
         have hc11:=hid c11
         clear c11
         by_cases c12:x3_0.size+((⟨#[75,81,107,113]⟩:ByteArray).extract (x5_0:Int).toNat ((wrap64 (x5_0+1)):Int).toNat).size≤9223372036854775807
         ·
          rw [if_pos c12] at H
          have hc12:=hid c12
          clear c12
          have H':=hid H
          clear H
          go_wp2_with (first
           |((with_reducible refine Qa (N:=10) rfl ?_);refine Qb (Ii s2) ((Qcg (k:=.i64) (yk:=.i64) a0 x5_0 hc6.out hc7.out _ _ _ _ rfl rfl rfl).trans (by rw [Option.some.inj A8.out])) rfl ?_)
           |((with_reducible refine Qa (N:=17) rfl ?_);refine Qb (.string ((⟨#[75,81,107,113]⟩:ByteArray).extract (x5_0:Int).toNat ((wrap64 (x5_0+1)):Int).toNat)) (qz 9 JV (⟨#[75,81,107,113]⟩:ByteArray) x5_0 (wrap64 (x5_0+1)) hc6.out hc10.out hc11.out _ _ _ rfl rfl rfl rfl) rfl ?_)
           |((with_reducible refine Qa (N:=18) rfl ?_);refine Qb (.string (x3_0++((⟨#[75,81,107,113]⟩:ByteArray).extract (x5_0:Int).toNat ((wrap64 (x5_0+1)):Int).toNat))) (Jy 9 x3_0 ((⟨#[75,81,107,113]⟩:ByteArray).extract (x5_0:Int).toNat ((wrap64 (x5_0+1)):Int).toNat) hc12.out _ _ _ rfl rfl rfl) rfl ?_))
          (try simp only [Act.put,sI,sZ,sS])
          go_roundg k4
          case measure=>have:=HK3.out;omega
          case rel=>exact ⟨x3_0++((⟨#[75,81,107,113]⟩:ByteArray).extract (x5_0:Int).toNat ((wrap64 (x5_0+1)):Int).toNat),wrap64 (x5_0+1),(by first|rfl|(simp;done)|(simp [*];done)),(by first|rfl|(simp;done)|(simp [*];done)),H',(hid (by first|omega|(have:=HK3.out;omega))),rfl⟩
         ·
          rw [if_neg c12] at H
          exact absurd H (by simp)
        ·
         rw [if_neg c11] at H
         exact absurd H (by simp)
       ·
        rw [if_neg c10] at H
        exact absurd H (by simp)
     ·
      rw [if_neg c7] at H
      exact absurd H (by simp)
    ·
     rw [if_neg c6] at H
     exact absurd H (by simp)
   ·
    rw [if_neg c5] at H
    have c5b0:decide (x5_0<4)=false:=decide_eq_false c5
    have hc5:=hid c5
    clear c5
    obtain rfl:=Option.some.inj H
    clear H
    go_wp2_with fail
    (try simp only [Act.put,sI,sZ,sS])
    go_ret
    exact ⟨by first|rfl|(simp;done)|(simp [*];done),rfl⟩
end Go.Proofs.YtaipghemddjecaaGreatDoor
