import Derived.Test.YtaipghemddjecaaGreatDoorGwy
import Derived.Test.YtaipghemddjecaaGreatDoorShelfy
import Derived.Test.YtaipghemddjecaaGreatDoorMiy
import Derived.Test.YtaipghemddjecaaGreatDoorProg
import Derived.Test.YtaipghemddjecaaGreatDoorS1wy
namespace Go.Proofs.YtaipghemddjecaaGreatDoor
set_option maxHeartbeats 40000000
set_option maxRecDepth 100000
open Go.RowKit
set_option linter.unusedVariables false
def QfF(n:Nat):List UInt8:=
  if n<10 then [UInt8.ofNat (48+n)] else if n<100 then [UInt8.ofNat (48+n/10),UInt8.ofNat (48+n%10)] else
  if n<1000 then [UInt8.ofNat (48+n/100),UInt8.ofNat (48+n/10%10),UInt8.ofNat (48+n%10)] else
  [UInt8.ofNat (48+n/1000),UInt8.ofNat (48+n/100%10),UInt8.ofNat (48+n/10%10),UInt8.ofNat (48+n%10)]
theorem QbM(n:Nat)(h:n<10000):Lib.decDigits n=QfF n:=by
  unfold QfF
  by_cases h1:n<10
  · rw [if_pos h1,Lib.decDigits,dif_pos h1]
  · rw [if_neg h1,Lib.decDigits,dif_neg h1]
    by_cases h2:n<100
    · rw [if_pos h2,Lib.decDigits,dif_pos (by omega)];rfl
    · rw [if_neg h2,Lib.decDigits,dif_neg (by omega),Lib.decDigits]
      by_cases h3:n<1000
      · rw [if_pos h3,dif_pos (by omega)]
        have:n/10/10=n/100:=by omega
        rw [this];rfl
      · rw [if_neg h3,dif_neg (by omega),Lib.decDigits,dif_pos (by omega)]
        have e1:n/10/10=n/100:=by omega
        have e2:n/10/10/10=n/1000:=by omega
        rw [e2,e1];rfl
def kE(n:Nat):ByteArray:=⟨(QfF n).toArray⟩
def JC.f(n:Int):Option ByteArray:=if 0≤n∧n<100 then some (kE n.toNat) else none
theorem JC.c(n:Int)(r1:ByteArray)(w:World)(h:JC.f n=some r1):
    Calls Tryz.prog 14 #[.int .i64 n] w fun e w'=>e=.returned (.string r1)∧Below w.heap.size w w':=by
  unfold JC.f at h
  split at h
  · rename_i hc
    obtain rfl:=Option.some.inj h
    obtain ⟨m,rfl⟩:∃ m:Nat,n=(m:Int):=⟨n.toNat,by omega⟩
    refine (Tryz.strconv_Itoa_small m (by omega) w).mono ?_
    rintro e_ w_ ⟨rfl,rfl⟩
    refine ⟨?_,Below.refl _ _⟩
    rw [QbM m (by omega)];rfl
  · cases h
set_option maxHeartbeats 40000000
set_option maxRecDepth 100000
open Go.RowKit
set_option linter.unusedVariables false
set_option linter.unusedSimpArgs false
def Jw.f(a0_0 a0_1 a0_2:Int)(a0_3:Bool):Option (ByteArray×Bool):=(Jk.f a0_0 a0_1 a0_2 a0_3).bind fun t2=>(if t2=true then (if a0_0=8 then ((JC.f a0_2).bind fun t3=>(if 4+t3.size≤9223372036854775807 then (if a0_3=true then (if ((⟨#[100,105,97,32]⟩:ByteArray)++t3).size+2≤9223372036854775807 then (some (((⟨#[100,105,97,32]⟩:ByteArray)++t3)++(⟨#[46,53]⟩:ByteArray),true)) else (none)) else (some ((⟨#[100,105,97,32]⟩:ByteArray)++t3,true))) else (none))) else ((Xg.f).bind fun t4=>(if 0≤a0_0 then (if a0_0<8 then ((Xh.f).bind fun t5=>(if 0≤a0_1 then (if a0_1<3 then (if (nt t4 a0_0.toNat ByteArray.empty).size+(nt t5 a0_1.toNat ByteArray.empty).size≤9223372036854775807 then ((JC.f a0_2).bind fun t6=>(if ((nt t4 a0_0.toNat ByteArray.empty)++(nt t5 a0_1.toNat ByteArray.empty)).size+t6.size≤9223372036854775807 then (if a0_3=true then (if (((nt t4 a0_0.toNat ByteArray.empty)++(nt t5 a0_1.toNat ByteArray.empty))++t6).size+2≤9223372036854775807 then (some ((((nt t4 a0_0.toNat ByteArray.empty)++(nt t5 a0_1.toNat ByteArray.empty))++t6)++(⟨#[46,53]⟩:ByteArray),true)) else (none)) else (some (((nt t4 a0_0.toNat ByteArray.empty)++(nt t5 a0_1.toNat ByteArray.empty))++t6,true))) else (none))) else (none)) else (none)) else (none))) else (none)) else (none)))) else (some ((⟨#[]⟩:ByteArray),false)))
theorem Jw.c(a0_0 a0_1 a0_2:Int)(a0_3:Bool)(r1:ByteArray)(r2:Bool)(w:World)(h:Jw.f a0_0 a0_1 a0_2 a0_3=some (r1,r2)):
 Calls Tryz.prog 11 #[.agg #[Ii a0_0,Ii a0_1,Ii a0_2,.bool a0_3]] w fun e w'=>e=.returned (.tuple #[.string r1,.bool r2])∧Below w.heap.size w w':=by
 have HL:=hid (Below.refl w.heap.size w)
 have H:((Jk.f a0_0 a0_1 a0_2 a0_3).bind fun t2=>(if t2=true then (if a0_0=8 then ((JC.f a0_2).bind fun t3=>(if 4+t3.size≤9223372036854775807 then (if a0_3=true then (if ((⟨#[100,105,97,32]⟩:ByteArray)++t3).size+2≤9223372036854775807 then (some (((⟨#[100,105,97,32]⟩:ByteArray)++t3)++(⟨#[46,53]⟩:ByteArray),true)) else (none)) else (some ((⟨#[100,105,97,32]⟩:ByteArray)++t3,true))) else (none))) else ((Xg.f).bind fun t4=>(if 0≤a0_0 then (if a0_0<8 then ((Xh.f).bind fun t5=>(if 0≤a0_1 then (if a0_1<3 then (if (nt t4 a0_0.toNat ByteArray.empty).size+(nt t5 a0_1.toNat ByteArray.empty).size≤9223372036854775807 then ((JC.f a0_2).bind fun t6=>(if ((nt t4 a0_0.toNat ByteArray.empty)++(nt t5 a0_1.toNat ByteArray.empty)).size+t6.size≤9223372036854775807 then (if a0_3=true then (if (((nt t4 a0_0.toNat ByteArray.empty)++(nt t5 a0_1.toNat ByteArray.empty))++t6).size+2≤9223372036854775807 then (some ((((nt t4 a0_0.toNat ByteArray.empty)++(nt t5 a0_1.toNat ByteArray.empty))++t6)++(⟨#[46,53]⟩:ByteArray),true)) else (none)) else (some (((nt t4 a0_0.toNat ByteArray.empty)++(nt t5 a0_1.toNat ByteArray.empty))++t6,true))) else (none))) else (none)) else (none)) else (none))) else (none)) else (none)))) else (some ((⟨#[]⟩:ByteArray),false))))=some (r1,r2):=h
 clear h
 replace H:=Ia H
 obtain ⟨t2,A7_,H⟩:=H
 have A7:=hid A7_
 clear A7_
 cases t2 with
 |true=>
  rw [if_pos rfl] at H
  by_cases c9:a0_0=8
  ·
   rw [if_pos c9] at H
   have c9b0:(a0_0==8)=true:=beq_iff_eq.mpr c9
   have c9b1:(a0_0 != 8)=false:=bne_eq_false_iff_eq.mpr c9
   have hc9:=hid c9
   clear c9
   have H':=hid H
   clear H
   go_enter Tryz.func11,Tryz.ntmps11
   have k12:=True.intro
   go_wp2_with (first
    |((with_reducible refine Qa (N:=1) rfl ?_);obtain ⟨gb1,hgb1⟩:∃ g_,w.heap.size=g_:=⟨_,rfl⟩;refine Jx #[Ii a0_0,Ii a0_1,Ii a0_2,.bool a0_3] gb1 hgb1 rfl _ rfl rfl ?_;intro w11 hb_ hB_ hs_;have GEb1:Hid (w.heap.size≤gb1):=hid (by have:=HL.out.size;omega);replace HL:=hid (HL.out.trans (hb_.mono GEb1.out));have BKb1:=hid hB_;clear hb_ hB_ hs_ hgb1)
    |((with_reducible refine Qa (N:=5) rfl ?_);refine Qb (.agg #[Ii a0_0,Ii a0_1,Ii a0_2,.bool a0_3]) (QI Zp gb1 0 #[Ii a0_0,Ii a0_1,Ii a0_2,.bool a0_3] #[Ii a0_0,Ii a0_1,Ii a0_2,.bool a0_3] BKb1.out (by simp) rfl _ rfl rfl) rfl ?_)
    |(go_at_call 30;clear k12;refine (Jk.c a0_0 a0_1 a0_2 a0_3 true _ A7.out).mono ?_;rintro e_ w13 ⟨rfl,hb_⟩;replace BKb1:=hid (BKb1.out.below hb_ BKb1.out.lt);replace HL:=hid (HL.out.trans (hb_.mono HL.out.size));clear hb_)
    |((with_reducible refine Qa (N:=8) rfl ?_);refine Qb (Pg gb1 0) (Qc 28 0 (Pg gb1 0) (Pg gb1 0) (Qv gb1) _ rfl rfl) rfl ?_)
    |((with_reducible refine Qa (N:=9) rfl ?_);refine Qb (Ii a0_0) (Qd sT3 gb1 (0) (Ii a0_0) (#[Ii a0_0,Ii a0_1,Ii a0_2,.bool a0_3]) BKb1.out rfl _ rfl rfl) rfl ?_)
    |((with_reducible refine Qa (N:=21) rfl ?_);refine Qb (Pg gb1 2) (Qc 28 2 (Pg gb1 0) (Pg gb1 2) (Jd gb1) _ rfl rfl) rfl ?_)
    |((with_reducible refine Qa (N:=22) rfl ?_);refine Qb (Ii a0_2) (Qd sT3 gb1 (2) (Ii a0_2) (#[Ii a0_0,Ii a0_1,Ii a0_2,.bool a0_3]) BKb1.out rfl _ rfl rfl) rfl ?_))
   (try simp only [Act.put,sI,sZ,sS])
   have H:=H'.out
   clear H'
   replace H:=Ia H
   obtain ⟨t3,A10_,H⟩:=H
   have A10:=hid A10_
   clear A10_
   by_cases c14:4+t3.size≤9223372036854775807
   ·
    rw [if_pos c14] at H
    have c14b0:decide (4+t3.size≤9223372036854775807)=true:=decide_eq_true c14
    have hc14:=hid c14
    clear c14
    cases a0_3 with
    |true=>
     rw [if_pos rfl] at H
     by_cases c16:((⟨#[100,105,97,32]⟩:ByteArray)++t3).size+2≤9223372036854775807
     ·
      rw [if_pos c16] at H
      have hc16:=hid c16
      clear c16
      simp only [Option.some.injEq,Prod.mk.injEq] at H
      obtain ⟨rfl,rfl⟩:=H
      have k17:=True.intro
      go_wp2_with (first
       |(go_at_call 14;clear k17;refine (JC.c a0_2 t3 _ A10.out).mono ?_;rintro e_ w18 ⟨rfl,hb_⟩;replace BKb1:=hid (BKb1.out.below hb_ BKb1.out.lt);replace HL:=hid (HL.out.trans (hb_.mono HL.out.size));clear hb_)
       |((with_reducible refine Qa (N:=24) rfl ?_);refine Qb (.string ((⟨#[100,105,97,32]⟩:ByteArray)++t3)) (Jy 9 (⟨#[100,105,97,32]⟩:ByteArray) t3 hc14.out _ _ _ rfl rfl rfl) rfl ?_)
       |((with_reducible refine Qa (N:=25) rfl ?_);refine Qb (Pg gb1 3) (Qc 28 3 (Pg gb1 0) (Pg gb1 3) (Xk gb1) _ rfl rfl) rfl ?_)
       |((with_reducible refine Qa (N:=26) rfl ?_);refine Qb (.bool true) (Qd sT4 gb1 (3) (.bool true) (#[Ii a0_0,Ii a0_1,Ii a0_2,.bool true]) BKb1.out rfl _ rfl rfl) rfl ?_)
       |((with_reducible refine Qa (N:=28) rfl ?_);refine Qb (.string (((⟨#[100,105,97,32]⟩:ByteArray)++t3)++(⟨#[46,53]⟩:ByteArray))) (Jy 9 ((⟨#[100,105,97,32]⟩:ByteArray)++t3) (⟨#[46,53]⟩:ByteArray) hc16.out _ _ _ rfl rfl rfl) rfl ?_))
      (try simp only [Act.put,sI,sZ,sS])
      go_ret2
      exact ⟨by first|rfl|(simp;done)|(simp [*];done),HL.out⟩
     ·
      rw [if_neg c16] at H
      exact absurd H (by simp)
    |false=>
     rw [if_neg (show ¬ (false=true) by decide)] at H
     simp only [Option.some.injEq,Prod.mk.injEq] at H
     obtain ⟨rfl,rfl⟩:=H
     have k19:=True.intro
     go_wp2_with (first
      |(go_at_call 14;clear k19;refine (JC.c a0_2 t3 _ A10.out).mono ?_;rintro e_ w20 ⟨rfl,hb_⟩;replace BKb1:=hid (BKb1.out.below hb_ BKb1.out.lt);replace HL:=hid (HL.out.trans (hb_.mono HL.out.size));clear hb_)
      |((with_reducible refine Qa (N:=24) rfl ?_);refine Qb (.string ((⟨#[100,105,97,32]⟩:ByteArray)++t3)) (Jy 9 (⟨#[100,105,97,32]⟩:ByteArray) t3 hc14.out _ _ _ rfl rfl rfl) rfl ?_)
      |((with_reducible refine Qa (N:=25) rfl ?_);refine Qb (Pg gb1 3) (Qc 28 3 (Pg gb1 0) (Pg gb1 3) (Xk gb1) _ rfl rfl) rfl ?_)
      |((with_reducible refine Qa (N:=26) rfl ?_);refine Qb (.bool false) (Qd sT4 gb1 (3) (.bool false) (#[Ii a0_0,Ii a0_1,Ii a0_2,.bool false]) BKb1.out rfl _ rfl rfl) rfl ?_))
     (try simp only [Act.put,sI,sZ,sS])
     go_ret2
     exact ⟨by first|rfl|(simp;done)|(simp [*];done),HL.out⟩
   ·
    rw [if_neg c14] at H
    exact absurd H (by simp)
  ·
   rw [if_neg c9] at H
   have c9b0:(a0_0==8)=false:=beq_eq_false_iff_ne.mpr c9
   have c9b1:(a0_0 != 8)=true:=bne_iff_ne.mpr c9
   have hc9:=hid c9
   clear c9
   replace H:=Ia H
   obtain ⟨t4,A21_,H⟩:=H
   have A21:=hid A21_
   clear A21_
   by_cases c22:0≤a0_0
   ·
    rw [if_pos c22] at H
    have c22b0:decide (0≤a0_0)=true:=decide_eq_true c22
    have hc22:=hid c22
    clear c22
    by_cases c23:a0_0<8
    ·
     rw [if_pos c23] at H
     have c23b0:decide (a0_0<8)=true:=decide_eq_true c23
     have hc23:=hid c23
     clear c23
     replace H:=Ia H
     obtain ⟨t5,A24_,H⟩:=H
     have A24:=hid A24_
     clear A24_
     by_cases c25:0≤a0_1
     ·
      rw [if_pos c25] at H
      have c25b0:decide (0≤a0_1)=true:=decide_eq_true c25
      have hc25:=hid c25
      clear c25
      by_cases c26:a0_1<3
      ·
       rw [if_pos c26] at H
       have c26b0:decide (a0_1<3)=true:=decide_eq_true c26
       have hc26:=hid c26
       clear c26
       by_cases c27:(nt t4 a0_0.toNat ByteArray.empty).size+(nt t5 a0_1.toNat ByteArray.empty).size≤9223372036854775807
       ·
        rw [if_pos c27] at H
        have hc27:=hid c27
        clear c27
        have H':=hid H
        clear H
        go_enter Tryz.func11,Tryz.ntmps11
        have k30:=True.intro
        go_wp2_with (first
         |((with_reducible refine Qa (N:=1) rfl ?_);obtain ⟨gb1,hgb1⟩:∃ g_,w.heap.size=g_:=⟨_,rfl⟩;refine Jx #[Ii a0_0,Ii a0_1,Ii a0_2,.bool a0_3] gb1 hgb1 rfl _ rfl rfl ?_;intro w29 hb_ hB_ hs_;have GEb1:Hid (w.heap.size≤gb1):=hid (by have:=HL.out.size;omega);replace HL:=hid (HL.out.trans (hb_.mono GEb1.out));have BKb1:=hid hB_;clear hb_ hB_ hs_ hgb1)
         |((with_reducible refine Qa (N:=5) rfl ?_);refine Qb (.agg #[Ii a0_0,Ii a0_1,Ii a0_2,.bool a0_3]) (QI Zp gb1 0 #[Ii a0_0,Ii a0_1,Ii a0_2,.bool a0_3] #[Ii a0_0,Ii a0_1,Ii a0_2,.bool a0_3] BKb1.out (by simp) rfl _ rfl rfl) rfl ?_)
         |(go_at_call 30;clear k30;refine (Jk.c a0_0 a0_1 a0_2 a0_3 true _ A7.out).mono ?_;rintro e_ w31 ⟨rfl,hb_⟩;replace BKb1:=hid (BKb1.out.below hb_ BKb1.out.lt);replace HL:=hid (HL.out.trans (hb_.mono HL.out.size));clear hb_)
         |((with_reducible refine Qa (N:=8) rfl ?_);refine Qb (Pg gb1 0) (Qc 28 0 (Pg gb1 0) (Pg gb1 0) (Qv gb1) _ rfl rfl) rfl ?_)
         |((with_reducible refine Qa (N:=9) rfl ?_);refine Qb (Ii a0_0) (Qd sT3 gb1 (0) (Ii a0_0) (#[Ii a0_0,Ii a0_1,Ii a0_2,.bool a0_3]) BKb1.out rfl _ rfl rfl) rfl ?_))
        (try simp only [Act.put,sI,sZ,sS])
        have WR64:=Zs
        have WR32:=ZA
        have WR8:=Ko
        have WRU:=ZY
        refine QL (fun z_=>Below w.heap.size w z_∧Blk z_ gb1 28 #[Ii a0_0,Ii a0_1,Ii a0_2,.bool a0_3]∧True) [] [(1,2),(2,1),(5,2),(6,1),(0,0),(3,2),(4,0),(7,2),(8,2),(9,2)] (by kernel_rfl) (by kernel_rfl) (by kernel_rfl) rfl ?_
        intro w32 hb_
        replace BKb1:=hid (BKb1.out.below hb_ BKb1.out.lt)
        replace HL:=hid (HL.out.trans (hb_.mono HL.out.size))
        clear hb_
        refine Qe (Pg gb1 0) rfl (fun z_=>Qc 28 0 (Pg gb1 0) (Pg gb1 0) (Qv gb1) _ rfl rfl) rfl rfl ?_
        intro t_ k_;simp only [sI,sZ,sS] at k_;subst k_
        refine QA (Ii a0_0) ⟨HL.out,BKb1.out,trivial⟩ rfl (fun z_ hS_=>Qd sT3 gb1 (0) (Ii a0_0) (#[Ii a0_0,Ii a0_1,Ii a0_2,.bool a0_3]) hS_.2.1 rfl _ rfl rfl) rfl rfl ?_
        intro t_ k_;simp only [sI,sZ,sS] at k_;subst k_
        refine Qe (Pg gb1 1) rfl (fun z_=>Qc 28 1 (Pg gb1 0) (Pg gb1 1) (ZD gb1) _ rfl rfl) rfl rfl ?_
        intro t_ k_;simp only [sI,sZ,sS] at k_;subst k_
        refine QA (Ii a0_1) ⟨HL.out,BKb1.out,trivial⟩ rfl (fun z_ hS_=>Qd sT3 gb1 (1) (Ii a0_1) (#[Ii a0_0,Ii a0_1,Ii a0_2,.bool a0_3]) hS_.2.1 rfl _ rfl rfl) rfl rfl ?_
        intro t_ k_;simp only [sI,sZ,sS] at k_;subst k_
        refine QV rfl (fun Q'_ hQ_=>?_)
        refine Jr 31 #[] (by go_simp) rfl ((Xg.c t4 _ A21.out).mono ?_)
        rintro e_ w34 ⟨rfl,ln_t4,hb_⟩
        have LN_t4:=hid ln_t4
        clear ln_t4
        replace BKb1:=hid (BKb1.out.below hb_ BKb1.out.lt)
        replace HL:=hid (HL.out.trans (hb_.mono HL.out.size))
        clear hb_
        refine ⟨_,rfl,?_⟩
        refine hQ_ _ _ (fun _=>⟨HL.out,BKb1.out,trivial⟩) ?_
        clear hQ_ Q'_
        simp only [Act.put,sI,sZ,sS]
        refine Qe (.string (nt t4 a0_0.toNat ByteArray.empty)) rfl (fun z_=>XW 64 (.agg (av Value.string t4)) (Ii a0_0) (.string (nt t4 a0_0.toNat ByteArray.empty)) (fun w_=>Vn 9 QgE sT9 t4 LN_t4.out ByteArray.empty a0_0 hc22.out hc23.out w_) _ _ rfl rfl rfl) rfl rfl ?_
        intro t_ k_;simp only [sI,sZ,sS] at k_;subst k_
        refine QV rfl (fun Q'_ hQ_=>?_)
        refine Jr 32 #[] (by go_simp) rfl ((Xh.c t5 _ A24.out).mono ?_)
        rintro e_ w36 ⟨rfl,ln_t5,hb_⟩
        have LN_t5:=hid ln_t5
        clear ln_t5
        replace BKb1:=hid (BKb1.out.below hb_ BKb1.out.lt)
        replace HL:=hid (HL.out.trans (hb_.mono HL.out.size))
        clear hb_
        refine ⟨_,rfl,?_⟩
        refine hQ_ _ _ (fun _=>⟨HL.out,BKb1.out,trivial⟩) ?_
        clear hQ_ Q'_
        simp only [Act.put,sI,sZ,sS]
        refine Qe (.string (nt t5 a0_1.toNat ByteArray.empty)) rfl (fun z_=>XW 66 (.agg (av Value.string t5)) (Ii a0_1) (.string (nt t5 a0_1.toNat ByteArray.empty)) (fun w_=>Vn 9 QgF sT9 t5 LN_t5.out ByteArray.empty a0_1 hc25.out hc26.out w_) _ _ rfl rfl rfl) rfl rfl ?_
        intro t_ k_;simp only [sI,sZ,sS] at k_;subst k_
        refine Qe (.string ((nt t4 a0_0.toNat ByteArray.empty)++(nt t5 a0_1.toNat ByteArray.empty))) rfl (fun z_=>Jy 9 (nt t4 a0_0.toNat ByteArray.empty) (nt t5 a0_1.toNat ByteArray.empty) hc27.out _ _ _ rfl rfl rfl) rfl rfl ?_
        intro t_ k_;simp only [sI,sZ,sS] at k_;subst k_
        refine Qe (.string ((nt t4 a0_0.toNat ByteArray.empty)++(nt t5 a0_1.toNat ByteArray.empty))) rfl (fun z_=>Qo (.tmp 19) (.inr rfl) _ rfl) rfl rfl ?_
        intro t_ k_;simp only [sI,sZ,sS] at k_;subst k_
        refine JH ?_
        clear WR64 WR32 WR8 WRU
        go_wp2_with (first
         |((with_reducible refine Qa (N:=21) rfl ?_);refine Qb (Pg gb1 2) (Qc 28 2 (Pg gb1 0) (Pg gb1 2) (Jd gb1) _ rfl rfl) rfl ?_)
         |((with_reducible refine Qa (N:=22) rfl ?_);refine Qb (Ii a0_2) (Qd sT3 gb1 (2) (Ii a0_2) (#[Ii a0_0,Ii a0_1,Ii a0_2,.bool a0_3]) BKb1.out rfl _ rfl rfl) rfl ?_))
        (try simp only [Act.put,sI,sZ,sS])
        have H:=H'.out
        clear H'
        replace H:=Ia H
        obtain ⟨t6,A28_,H⟩:=H
        have A28:=hid A28_
        clear A28_
        by_cases c37:((nt t4 a0_0.toNat ByteArray.empty)++(nt t5 a0_1.toNat ByteArray.empty)).size+t6.size≤9223372036854775807
        ·
         rw [if_pos c37] at H
         have hc37:=hid c37
         clear c37
         cases a0_3 with
         |true=>
          rw [if_pos rfl] at H
          by_cases c39:(((nt t4 a0_0.toNat ByteArray.empty)++(nt t5 a0_1.toNat ByteArray.empty))++t6).size+2≤9223372036854775807
          ·
           rw [if_pos c39] at H
           have hc39:=hid c39
           clear c39
           simp only [Option.some.injEq,Prod.mk.injEq] at H
           obtain ⟨rfl,rfl⟩:=H
           have k40:=True.intro
           go_wp2_with (first
            |(go_at_call 14;clear k40;refine (JC.c a0_2 t6 _ A28.out).mono ?_;rintro e_ w41 ⟨rfl,hb_⟩;replace BKb1:=hid (BKb1.out.below hb_ BKb1.out.lt);replace HL:=hid (HL.out.trans (hb_.mono HL.out.size));clear hb_)
            |((with_reducible refine Qa (N:=24) rfl ?_);refine Qb (.string (((nt t4 a0_0.toNat ByteArray.empty)++(nt t5 a0_1.toNat ByteArray.empty))++t6)) (Jy 9 ((nt t4 a0_0.toNat ByteArray.empty)++(nt t5 a0_1.toNat ByteArray.empty)) t6 hc37.out _ _ _ rfl rfl rfl) rfl ?_)
            |((with_reducible refine Qa (N:=25) rfl ?_);refine Qb (Pg gb1 3) (Qc 28 3 (Pg gb1 0) (Pg gb1 3) (Xk gb1) _ rfl rfl) rfl ?_)
            |((with_reducible refine Qa (N:=26) rfl ?_);refine Qb (.bool true) (Qd sT4 gb1 (3) (.bool true) (#[Ii a0_0,Ii a0_1,Ii a0_2,.bool true]) BKb1.out rfl _ rfl rfl) rfl ?_)
            |((with_reducible refine Qa (N:=28) rfl ?_);refine Qb (.string ((((nt t4 a0_0.toNat ByteArray.empty)++(nt t5 a0_1.toNat ByteArray.empty))++t6)++(⟨#[46,53]⟩:ByteArray))) (Jy 9 (((nt t4 a0_0.toNat ByteArray.empty)++(nt t5 a0_1.toNat ByteArray.empty))++t6) (⟨#[46,53]⟩:ByteArray) hc39.out _ _ _ rfl rfl rfl) rfl ?_))
           (try simp only [Act.put,sI,sZ,sS])
           go_ret2
           exact ⟨by first|rfl|(simp;done)|(simp [*];done),HL.out⟩
          ·
           rw [if_neg c39] at H
           exact absurd H (by simp)
         |false=>
          rw [if_neg (show ¬ (false=true) by decide)] at H
          simp only [Option.some.injEq,Prod.mk.injEq] at H
          obtain ⟨rfl,rfl⟩:=H
          have k42:=True.intro
          go_wp2_with (first
           |(go_at_call 14;clear k42;refine (JC.c a0_2 t6 _ A28.out).mono ?_;rintro e_ w43 ⟨rfl,hb_⟩;replace BKb1:=hid (BKb1.out.below hb_ BKb1.out.lt);replace HL:=hid (HL.out.trans (hb_.mono HL.out.size));clear hb_)
           |((with_reducible refine Qa (N:=24) rfl ?_);refine Qb (.string (((nt t4 a0_0.toNat ByteArray.empty)++(nt t5 a0_1.toNat ByteArray.empty))++t6)) (Jy 9 ((nt t4 a0_0.toNat ByteArray.empty)++(nt t5 a0_1.toNat ByteArray.empty)) t6 hc37.out _ _ _ rfl rfl rfl) rfl ?_)
           |((with_reducible refine Qa (N:=25) rfl ?_);refine Qb (Pg gb1 3) (Qc 28 3 (Pg gb1 0) (Pg gb1 3) (Xk gb1) _ rfl rfl) rfl ?_)
           |((with_reducible refine Qa (N:=26) rfl ?_);refine Qb (.bool false) (Qd sT4 gb1 (3) (.bool false) (#[Ii a0_0,Ii a0_1,Ii a0_2,.bool false]) BKb1.out rfl _ rfl rfl) rfl ?_))
          (try simp only [Act.put,sI,sZ,sS])
          go_ret2
          exact ⟨by first|rfl|(simp;done)|(simp [*];done),HL.out⟩
        ·
         rw [if_neg c37] at H
         exact absurd H (by simp)
       ·
        rw [if_neg c27] at H
        exact absurd H (by simp)
      ·
       rw [if_neg c26] at H
       exact absurd H (by simp)
     ·
      rw [if_neg c25] at H
      exact absurd H (by simp)
    ·
     rw [if_neg c23] at H
     exact absurd H (by simp)
   ·
    rw [if_neg c22] at H
    exact absurd H (by simp)
 |false=>
  rw [if_neg (show ¬ (false=true) by decide)] at H
  simp only [Option.some.injEq,Prod.mk.injEq] at H
  obtain ⟨rfl,rfl⟩:=H
  go_enter Tryz.func11,Tryz.ntmps11
  have k45:=True.intro
  go_wp2_with (first
   |((with_reducible refine Qa (N:=1) rfl ?_);obtain ⟨gb1,hgb1⟩:∃ g_,w.heap.size=g_:=⟨_,rfl⟩;refine Jx #[Ii a0_0,Ii a0_1,Ii a0_2,.bool a0_3] gb1 hgb1 rfl _ rfl rfl ?_;intro w44 hb_ hB_ hs_;have GEb1:Hid (w.heap.size≤gb1):=hid (by have:=HL.out.size;omega);replace HL:=hid (HL.out.trans (hb_.mono GEb1.out));have BKb1:=hid hB_;clear hb_ hB_ hs_ hgb1)
   |((with_reducible refine Qa (N:=5) rfl ?_);refine Qb (.agg #[Ii a0_0,Ii a0_1,Ii a0_2,.bool a0_3]) (QI Zp gb1 0 #[Ii a0_0,Ii a0_1,Ii a0_2,.bool a0_3] #[Ii a0_0,Ii a0_1,Ii a0_2,.bool a0_3] BKb1.out (by simp) rfl _ rfl rfl) rfl ?_)
   |(go_at_call 30;clear k45;refine (Jk.c a0_0 a0_1 a0_2 a0_3 false _ A7.out).mono ?_;rintro e_ w46 ⟨rfl,hb_⟩;replace BKb1:=hid (BKb1.out.below hb_ BKb1.out.lt);replace HL:=hid (HL.out.trans (hb_.mono HL.out.size));clear hb_))
  (try simp only [Act.put,sI,sZ,sS])
  go_ret2
  exact ⟨by first|rfl|(simp;done)|(simp [*];done),HL.out⟩
end Go.Proofs.YtaipghemddjecaaGreatDoor
