import Derived.Test.YtaipghemddjecaaGreatDoorMiy
import Derived.Test.YtaipghemddjecaaGreatDoorProg
import Derived.Test.YtaipghemddjecaaGreatDoorT5y
import Derived.Test.YtaipghemddjecaaGreatDoorTzy
import Derived.Test.YtaipghemddjecaaGreatDoorF3wy
import Derived.Test.YtaipghemddjecaaGreatDoorMny
namespace Go.Proofs.YtaipghemddjecaaGreatDoor
set_option maxHeartbeats 40000000
set_option maxRecDepth 100000
open Go.RowKit
set_option linter.unusedVariables false
set_option linter.unusedSimpArgs false
theorem QcF(w:World):(isAgg 30).run Tryz.prog w=.ok true w:=by kernel_rfl
theorem QaU(w:World):(sizeOf 30).run Tryz.prog w=.ok 75 w:=by kernel_rfl
theorem QaV(w:World):(zeroValue 30).run Tryz.prog w=.ok (.agg (xv (Value.int .i8) zL [Ii 0,Ii 0,Ii 0,Ii 0,Ii 0,Ii 0,.bool false,.bool false,.bool false,Ii 0,Ii 0])) w:=by kernel_rfl
theorem KI:AggT Tryz.prog 30 75 (xv (Value.int .i8) zL [Ii 0,Ii 0,Ii 0,Ii 0,Ii 0,Ii 0,.bool false,.bool false,.bool false,Ii 0,Ii 0]):=⟨QcF,QaU,QaV,by first|rfl|decide⟩
theorem Qfj(d:Nat)(w:World)(x0 y0 x1 y1 x2 y2:Int)(x3 y3:Bool):(Op.equalIn (d+2) 28 (.agg #[Ii x0,Ii x1,Ii x2,.bool x3]) (.agg #[Ii y0,Ii y1,Ii y2,.bool y3])).run Tryz.prog w=.ok ((x0==y0)&&((x1==y1)&&((x2==y2)&&((x3==y3))))) w:=by
 refine QfD Tryz.underlying28 (by kernel_rfl) ?_
 refine jj (by rfl) (by go_simp;rfl) (by go_simp;rfl) (by go_simp) ?_
 refine jj (by rfl) (by go_simp;rfl) (by go_simp;rfl) (by go_simp) ?_
 refine jj (by rfl) (by go_simp;rfl) (by go_simp;rfl) (by go_simp) ?_
 exact QbJ (by rfl) (by go_simp;rfl) (by go_simp;rfl) (by go_simp)
theorem ub5:Tryz.prog.underlying 5=some (.int .u8):=by kernel_rfl
theorem Qhc:Tryz.prog.underlying 38=some (.slice 5):=by kernel_rfl
def JR.f(k:Nat):Option (Bool):=(Jb.f k (⟨#[98,101,103,105,110,10,102,111,114,115,121,116,104,32,56,47,56,47,56,47,56,47,56,47,49,75,54,47,56,47,107,54,82,10,115,116,105,112,32,35,49,10,101,110,100,10]⟩:ByteArray)).bind fun bt1=>(if bt1.2.2.2.2.2.2.2.2.2.2.2.2.2=0 then (if bt1.2.1=0 then (if bt1.2.2.2.1=(-1) then (if bt1.2.2.2.2.2.2.2.2.2.2.2.1=(-1) then (if ((bt1.2.2.2.2.1==1)&&((bt1.2.2.2.2.2.1==1)&&((bt1.2.2.2.2.2.2.1==1)&&((bt1.2.2.2.2.2.2.2.1==false)))))=true then (some true) else (some false)) else (some false)) else (some false)) else (some false)) else (some false))
theorem JR.c(k:Nat)(r1:Bool)(w:World)(h:JR.f k=some r1):
 Calls Tryz.prog 5 #[] w fun e w'=>e=.returned (.bool r1)∧Below w.heap.size w w':=by
 have HL:=hid (Below.refl w.heap.size w)
 have H:((Jb.f k (⟨#[98,101,103,105,110,10,102,111,114,115,121,116,104,32,56,47,56,47,56,47,56,47,56,47,49,75,54,47,56,47,107,54,82,10,115,116,105,112,32,35,49,10,101,110,100,10]⟩:ByteArray)).bind fun bt1=>(if bt1.2.2.2.2.2.2.2.2.2.2.2.2.2=0 then (if bt1.2.1=0 then (if bt1.2.2.2.1=(-1) then (if bt1.2.2.2.2.2.2.2.2.2.2.2.1=(-1) then (if ((bt1.2.2.2.2.1==1)&&((bt1.2.2.2.2.2.1==1)&&((bt1.2.2.2.2.2.2.1==1)&&((bt1.2.2.2.2.2.2.2.1==false)))))=true then (some true) else (some false)) else (some false)) else (some false)) else (some false)) else (some false)))=some r1:=h
 clear h
 replace H:=Ia H
 obtain ⟨⟨t1,t2,t3,t4,t5,t6,t7,t8,t9,t10,t11,t12,t13,t14⟩,A16_,H⟩:=H
 dsimp only at H
 have A16:=hid A16_
 clear A16_
 by_cases c17:t14=0
 ·
  rw [if_pos c17] at H
  have c17b0:(t14==0)=true:=beq_iff_eq.mpr c17
  have c17b1:(t14 != 0)=false:=bne_eq_false_iff_eq.mpr c17
  have hc17:=hid c17
  clear c17
  by_cases c18:t2=0
  ·
   rw [if_pos c18] at H
   have c18b0:(t2==0)=true:=beq_iff_eq.mpr c18
   have c18b1:(t2 != 0)=false:=bne_eq_false_iff_eq.mpr c18
   have hc18:=hid c18
   clear c18
   by_cases c19:t4=(-1)
   ·
    rw [if_pos c19] at H
    have c19b0:(t4==(-1))=true:=beq_iff_eq.mpr c19
    have c19b1:(t4 != (-1))=false:=bne_eq_false_iff_eq.mpr c19
    have hc19:=hid c19
    clear c19
    by_cases c20:t12=(-1)
    ·
     rw [if_pos c20] at H
     have c20b0:(t12==(-1))=true:=beq_iff_eq.mpr c20
     have c20b1:(t12 != (-1))=false:=bne_eq_false_iff_eq.mpr c20
     have hc20:=hid c20
     clear c20
     by_cases c21:((t5==1)&&((t6==1)&&((t7==1)&&((t8==false)))))=true
     ·
      rw [if_pos c21] at H
      have c21b0:((t5==1)&&((t6==1)&&((t7==1)&&((t8==false)))))=true:=c21
      have hc21:=hid c21
      clear c21
      obtain rfl:=Option.some.inj H
      clear H
      go_enter Tryz.func5,Tryz.ntmps5
      have k22:=True.intro
      go_wp2_with (first
       |(go_at_call 7;clear k22;refine (Jb.c k (⟨#[98,101,103,105,110,10,102,111,114,115,121,116,104,32,56,47,56,47,56,47,56,47,56,47,49,75,54,47,56,47,107,54,82,10,115,116,105,112,32,35,49,10,101,110,100,10]⟩:ByteArray) t1 t2 t3 t4 t5 t6 t7 t8 t9 t10 t11 t12 t13 t14 _ A16.out).mono ?_;rintro e_ w23 ⟨rfl,ln_t1,hb_⟩;have LN_t1:=hid ln_t1;clear ln_t1;replace HL:=hid (HL.out.trans (hb_.mono HL.out.size));clear hb_)
       |((with_reducible refine Qa (N:=1) rfl ?_);obtain ⟨gb15,hgb15⟩:∃ g_,w23.heap.size=g_:=⟨_,rfl⟩;refine Qq KI gb15 hgb15 rfl rfl ?_;intro w24 hb_ hB_ hs_;have GEb15:Hid (w.heap.size≤gb15):=hid (by have:=HL.out.size;omega);replace HL:=hid (HL.out.trans (hb_.mono GEb15.out));have BKb15:=hid hB_;clear hb_ hB_ hs_ hgb15)
       |((with_reducible refine Qf (t:=30) (p:=1) rfl ?_);refine Qg KI gb15 0 (xv (Value.int .i8) zL [Ii 0,Ii 0,Ii 0,Ii 0,Ii 0,Ii 0,.bool false,.bool false,.bool false,Ii 0,Ii 0]) (xv (Value.int .i8) t1 [Ii t2,Ii t3,Ii t4,Ii t5,Ii t6,Ii t7,.bool t8,.bool t9,.bool t10,Ii t11,Ii t12]) (xv (Value.int .i8) t1 [Ii t2,Ii t3,Ii t4,Ii t5,Ii t6,Ii t7,.bool t8,.bool t9,.bool t10,Ii t11,Ii t12]) BKb15.out (by rw [show (xv (Value.int .i8) t1 [Ii t2,Ii t3,Ii t4,Ii t5,Ii t6,Ii t7,.bool t8,.bool t9,.bool t10,Ii t11,Ii t12])=xv (Value.int .i8) t1 [Ii t2,Ii t3,Ii t4,Ii t5,Ii t6,Ii t7,.bool t8,.bool t9,.bool t10,Ii t11,Ii t12] from rfl,QE,show t1.length=64 from LN_t1.out];rfl) (XX Qh 75 rfl) (XH (fun _=>rfl) (by intro v_ hv_;simp at hv_;rcases hv_ with rfl|rfl|rfl|rfl|rfl|rfl|rfl|rfl|rfl|rfl|rfl <;> rfl)) (XI Qh LN_t1.out rfl) rfl _ _ rfl rfl rfl ?_;intro w25 ho_ hB_;replace HL:=hid (ho_.below HL.out GEb15.out);replace BKb15:=hid hB_;clear ho_ hB_)
       |((with_reducible refine Qa (N:=12) rfl ?_);refine Qb (Pg gb15 0) (Qc 30 0 (Pg gb15 0) (Pg gb15 0) (Xv gb15) _ rfl rfl) rfl ?_)
       |((with_reducible refine Qa (N:=13) rfl ?_);refine Qb (Pg gb15 64) (Qc 26 1 (Pg gb15 0) (Pg gb15 64) (Ve gb15) _ rfl rfl) rfl ?_)
       |((with_reducible refine Qa (N:=14) rfl ?_);refine Qb (Ii t2) (Qd sT3 gb15 (64) (Ii t2) ((xv (Value.int .i8) t1 [Ii t2,Ii t3,Ii t4,Ii t5,Ii t6,Ii t7,.bool t8,.bool t9,.bool t10,Ii t11,Ii t12])) BKb15.out ((Qi (n:=64) LN_t1.out 0 64 (by omega)).trans rfl) _ rfl rfl) rfl ?_)
       |((with_reducible refine Qa (N:=18) rfl ?_);refine Qb (Pg gb15 0) (Qc 30 0 (Pg gb15 0) (Pg gb15 0) (Xv gb15) _ rfl rfl) rfl ?_)
       |((with_reducible refine Qa (N:=19) rfl ?_);refine Qb (Pg gb15 66) (Qc 26 3 (Pg gb15 0) (Pg gb15 66) (XL gb15) _ rfl rfl) rfl ?_)
       |((with_reducible refine Qa (N:=20) rfl ?_);refine Qb (Ii t4) (Qd sT3 gb15 (66) (Ii t4) ((xv (Value.int .i8) t1 [Ii t2,Ii t3,Ii t4,Ii t5,Ii t6,Ii t7,.bool t8,.bool t9,.bool t10,Ii t11,Ii t12])) BKb15.out ((Qi (n:=64) LN_t1.out 2 66 (by omega)).trans rfl) _ rfl rfl) rfl ?_)
       |((with_reducible refine Qa (N:=24) rfl ?_);refine Qb (Pg gb15 74) (Qc 30 5 (Pg gb15 0) (Pg gb15 74) (Kd gb15) _ rfl rfl) rfl ?_)
       |((with_reducible refine Qa (N:=25) rfl ?_);refine Qb (Ii t12) (Qd sT3 gb15 (74) (Ii t12) ((xv (Value.int .i8) t1 [Ii t2,Ii t3,Ii t4,Ii t5,Ii t6,Ii t7,.bool t8,.bool t9,.bool t10,Ii t11,Ii t12])) BKb15.out ((Qi (n:=64) LN_t1.out 10 74 (by omega)).trans rfl) _ rfl rfl) rfl ?_)
       |((with_reducible refine Qa (N:=29) rfl ?_);refine Qb (Pg gb15 67) (Qc 30 1 (Pg gb15 0) (Pg gb15 67) (qm gb15) _ rfl rfl) rfl ?_)
       |((with_reducible refine Qa (N:=30) rfl ?_);refine Qb (.agg #[Ii t5,Ii t6,Ii t7,.bool t8]) (QI Zp gb15 67 (xv (Value.int .i8) t1 [Ii t2,Ii t3,Ii t4,Ii t5,Ii t6,Ii t7,.bool t8,.bool t9,.bool t10,Ii t11,Ii t12]) #[Ii t5,Ii t6,Ii t7,.bool t8] BKb15.out (qD (n:=64) (c:=11) LN_t1.out rfl (m:=71) (by decide)) (qE (n:=64) LN_t1.out 3 67 4 (by decide)) _ rfl rfl) rfl ?_)
       |((with_reducible refine Qa (N:=31) rfl ?_);refine Qr (.agg #[Ii 1,Ii 1,Ii 1,.bool false]) _ rfl rfl ?_ ?_;(intro ww_;simp only [List.map_toArray,List.map_cons,List.map_nil];kernel_rfl))
       |((with_reducible refine Qa (N:=32) rfl ?_);refine Qb (.bool true) (QeX .eql 28 (.agg #[Ii t5,Ii t6,Ii t7,.bool t8]) (.agg #[Ii 1,Ii 1,Ii 1,.bool false]) (.bool true) (fun x_ y_ w_=>jW (by kernel_rfl) _ x_ y_ w_) (fun w_=>(QbK (fun d_ w2_=>Qfj d_ w2_ t5 1 t6 1 t7 1 t8 false ) (by decide) w_).trans (by rw [show ((t5==1)&&((t6==1)&&((t7==1)&&((t8==false)))))=true from hc21.out])) _ _ _ rfl rfl rfl) rfl ?_))
      (try simp only [Act.put,sI,sZ,sS])
      go_ret
      exact ⟨by first|rfl|(simp;done)|(simp [*];done),HL.out⟩
     ·
      rw [if_neg c21] at H
      have c21b0:((t5==1)&&((t6==1)&&((t7==1)&&((t8==false)))))=false:=by simpa using c21
      have hc21:=hid c21
      clear c21
      obtain rfl:=Option.some.inj H
      clear H
      go_enter Tryz.func5,Tryz.ntmps5
      have k26:=True.intro
      go_wp2_with (first
       |(go_at_call 7;clear k26;refine (Jb.c k (⟨#[98,101,103,105,110,10,102,111,114,115,121,116,104,32,56,47,56,47,56,47,56,47,56,47,49,75,54,47,56,47,107,54,82,10,115,116,105,112,32,35,49,10,101,110,100,10]⟩:ByteArray) t1 t2 t3 t4 t5 t6 t7 t8 t9 t10 t11 t12 t13 t14 _ A16.out).mono ?_;rintro e_ w27 ⟨rfl,ln_t1,hb_⟩;have LN_t1:=hid ln_t1;clear ln_t1;replace HL:=hid (HL.out.trans (hb_.mono HL.out.size));clear hb_)
       |((with_reducible refine Qa (N:=1) rfl ?_);obtain ⟨gb15,hgb15⟩:∃ g_,w27.heap.size=g_:=⟨_,rfl⟩;refine Qq KI gb15 hgb15 rfl rfl ?_;intro w28 hb_ hB_ hs_;have GEb15:Hid (w.heap.size≤gb15):=hid (by have:=HL.out.size;omega);replace HL:=hid (HL.out.trans (hb_.mono GEb15.out));have BKb15:=hid hB_;clear hb_ hB_ hs_ hgb15)
       |((with_reducible refine Qf (t:=30) (p:=1) rfl ?_);refine Qg KI gb15 0 (xv (Value.int .i8) zL [Ii 0,Ii 0,Ii 0,Ii 0,Ii 0,Ii 0,.bool false,.bool false,.bool false,Ii 0,Ii 0]) (xv (Value.int .i8) t1 [Ii t2,Ii t3,Ii t4,Ii t5,Ii t6,Ii t7,.bool t8,.bool t9,.bool t10,Ii t11,Ii t12]) (xv (Value.int .i8) t1 [Ii t2,Ii t3,Ii t4,Ii t5,Ii t6,Ii t7,.bool t8,.bool t9,.bool t10,Ii t11,Ii t12]) BKb15.out (by rw [show (xv (Value.int .i8) t1 [Ii t2,Ii t3,Ii t4,Ii t5,Ii t6,Ii t7,.bool t8,.bool t9,.bool t10,Ii t11,Ii t12])=xv (Value.int .i8) t1 [Ii t2,Ii t3,Ii t4,Ii t5,Ii t6,Ii t7,.bool t8,.bool t9,.bool t10,Ii t11,Ii t12] from rfl,QE,show t1.length=64 from LN_t1.out];rfl) (XX Qh 75 rfl) (XH (fun _=>rfl) (by intro v_ hv_;simp at hv_;rcases hv_ with rfl|rfl|rfl|rfl|rfl|rfl|rfl|rfl|rfl|rfl|rfl <;> rfl)) (XI Qh LN_t1.out rfl) rfl _ _ rfl rfl rfl ?_;intro w29 ho_ hB_;replace HL:=hid (ho_.below HL.out GEb15.out);replace BKb15:=hid hB_;clear ho_ hB_)
       |((with_reducible refine Qa (N:=12) rfl ?_);refine Qb (Pg gb15 0) (Qc 30 0 (Pg gb15 0) (Pg gb15 0) (Xv gb15) _ rfl rfl) rfl ?_)
       |((with_reducible refine Qa (N:=13) rfl ?_);refine Qb (Pg gb15 64) (Qc 26 1 (Pg gb15 0) (Pg gb15 64) (Ve gb15) _ rfl rfl) rfl ?_)
       |((with_reducible refine Qa (N:=14) rfl ?_);refine Qb (Ii t2) (Qd sT3 gb15 (64) (Ii t2) ((xv (Value.int .i8) t1 [Ii t2,Ii t3,Ii t4,Ii t5,Ii t6,Ii t7,.bool t8,.bool t9,.bool t10,Ii t11,Ii t12])) BKb15.out ((Qi (n:=64) LN_t1.out 0 64 (by omega)).trans rfl) _ rfl rfl) rfl ?_)
       |((with_reducible refine Qa (N:=18) rfl ?_);refine Qb (Pg gb15 0) (Qc 30 0 (Pg gb15 0) (Pg gb15 0) (Xv gb15) _ rfl rfl) rfl ?_)
       |((with_reducible refine Qa (N:=19) rfl ?_);refine Qb (Pg gb15 66) (Qc 26 3 (Pg gb15 0) (Pg gb15 66) (XL gb15) _ rfl rfl) rfl ?_)
       |((with_reducible refine Qa (N:=20) rfl ?_);refine Qb (Ii t4) (Qd sT3 gb15 (66) (Ii t4) ((xv (Value.int .i8) t1 [Ii t2,Ii t3,Ii t4,Ii t5,Ii t6,Ii t7,.bool t8,.bool t9,.bool t10,Ii t11,Ii t12])) BKb15.out ((Qi (n:=64) LN_t1.out 2 66 (by omega)).trans rfl) _ rfl rfl) rfl ?_)
       |((with_reducible refine Qa (N:=24) rfl ?_);refine Qb (Pg gb15 74) (Qc 30 5 (Pg gb15 0) (Pg gb15 74) (Kd gb15) _ rfl rfl) rfl ?_)
       |((with_reducible refine Qa (N:=25) rfl ?_);refine Qb (Ii t12) (Qd sT3 gb15 (74) (Ii t12) ((xv (Value.int .i8) t1 [Ii t2,Ii t3,Ii t4,Ii t5,Ii t6,Ii t7,.bool t8,.bool t9,.bool t10,Ii t11,Ii t12])) BKb15.out ((Qi (n:=64) LN_t1.out 10 74 (by omega)).trans rfl) _ rfl rfl) rfl ?_)
       |((with_reducible refine Qa (N:=29) rfl ?_);refine Qb (Pg gb15 67) (Qc 30 1 (Pg gb15 0) (Pg gb15 67) (qm gb15) _ rfl rfl) rfl ?_)
       |((with_reducible refine Qa (N:=30) rfl ?_);refine Qb (.agg #[Ii t5,Ii t6,Ii t7,.bool t8]) (QI Zp gb15 67 (xv (Value.int .i8) t1 [Ii t2,Ii t3,Ii t4,Ii t5,Ii t6,Ii t7,.bool t8,.bool t9,.bool t10,Ii t11,Ii t12]) #[Ii t5,Ii t6,Ii t7,.bool t8] BKb15.out (qD (n:=64) (c:=11) LN_t1.out rfl (m:=71) (by decide)) (qE (n:=64) LN_t1.out 3 67 4 (by decide)) _ rfl rfl) rfl ?_)
       |((with_reducible refine Qa (N:=31) rfl ?_);refine Qr (.agg #[Ii 1,Ii 1,Ii 1,.bool false]) _ rfl rfl ?_ ?_;(intro ww_;simp only [List.map_toArray,List.map_cons,List.map_nil];kernel_rfl))
       |((with_reducible refine Qa (N:=32) rfl ?_);refine Qb (.bool false) (QeX .eql 28 (.agg #[Ii t5,Ii t6,Ii t7,.bool t8]) (.agg #[Ii 1,Ii 1,Ii 1,.bool false]) (.bool false) (fun x_ y_ w_=>jW (by kernel_rfl) _ x_ y_ w_) (fun w_=>(QbK (fun d_ w2_=>Qfj d_ w2_ t5 1 t6 1 t7 1 t8 false ) (by decide) w_).trans (by rw [show ((t5==1)&&((t6==1)&&((t7==1)&&((t8==false)))))=false from Bool.eq_false_iff.mpr hc21.out])) _ _ _ rfl rfl rfl) rfl ?_))
      (try simp only [Act.put,sI,sZ,sS])
      go_ret
      exact ⟨by first|rfl|(simp;done)|(simp [*];done),HL.out⟩
    ·
     rw [if_neg c20] at H
     have c20b0:(t12==(-1))=false:=beq_eq_false_iff_ne.mpr c20
     have c20b1:(t12 != (-1))=true:=bne_iff_ne.mpr c20
     have hc20:=hid c20
     clear c20
     obtain rfl:=Option.some.inj H
     clear H
     go_enter Tryz.func5,Tryz.ntmps5
     have k30:=True.intro
     go_wp2_with (first
      |(go_at_call 7;clear k30;refine (Jb.c k (⟨#[98,101,103,105,110,10,102,111,114,115,121,116,104,32,56,47,56,47,56,47,56,47,56,47,49,75,54,47,56,47,107,54,82,10,115,116,105,112,32,35,49,10,101,110,100,10]⟩:ByteArray) t1 t2 t3 t4 t5 t6 t7 t8 t9 t10 t11 t12 t13 t14 _ A16.out).mono ?_;rintro e_ w31 ⟨rfl,ln_t1,hb_⟩;have LN_t1:=hid ln_t1;clear ln_t1;replace HL:=hid (HL.out.trans (hb_.mono HL.out.size));clear hb_)
      |((with_reducible refine Qa (N:=1) rfl ?_);obtain ⟨gb15,hgb15⟩:∃ g_,w31.heap.size=g_:=⟨_,rfl⟩;refine Qq KI gb15 hgb15 rfl rfl ?_;intro w32 hb_ hB_ hs_;have GEb15:Hid (w.heap.size≤gb15):=hid (by have:=HL.out.size;omega);replace HL:=hid (HL.out.trans (hb_.mono GEb15.out));have BKb15:=hid hB_;clear hb_ hB_ hs_ hgb15)
      |((with_reducible refine Qf (t:=30) (p:=1) rfl ?_);refine Qg KI gb15 0 (xv (Value.int .i8) zL [Ii 0,Ii 0,Ii 0,Ii 0,Ii 0,Ii 0,.bool false,.bool false,.bool false,Ii 0,Ii 0]) (xv (Value.int .i8) t1 [Ii t2,Ii t3,Ii t4,Ii t5,Ii t6,Ii t7,.bool t8,.bool t9,.bool t10,Ii t11,Ii t12]) (xv (Value.int .i8) t1 [Ii t2,Ii t3,Ii t4,Ii t5,Ii t6,Ii t7,.bool t8,.bool t9,.bool t10,Ii t11,Ii t12]) BKb15.out (by rw [show (xv (Value.int .i8) t1 [Ii t2,Ii t3,Ii t4,Ii t5,Ii t6,Ii t7,.bool t8,.bool t9,.bool t10,Ii t11,Ii t12])=xv (Value.int .i8) t1 [Ii t2,Ii t3,Ii t4,Ii t5,Ii t6,Ii t7,.bool t8,.bool t9,.bool t10,Ii t11,Ii t12] from rfl,QE,show t1.length=64 from LN_t1.out];rfl) (XX Qh 75 rfl) (XH (fun _=>rfl) (by intro v_ hv_;simp at hv_;rcases hv_ with rfl|rfl|rfl|rfl|rfl|rfl|rfl|rfl|rfl|rfl|rfl <;> rfl)) (XI Qh LN_t1.out rfl) rfl _ _ rfl rfl rfl ?_;intro w33 ho_ hB_;replace HL:=hid (ho_.below HL.out GEb15.out);replace BKb15:=hid hB_;clear ho_ hB_)
      |((with_reducible refine Qa (N:=12) rfl ?_);refine Qb (Pg gb15 0) (Qc 30 0 (Pg gb15 0) (Pg gb15 0) (Xv gb15) _ rfl rfl) rfl ?_)
      |((with_reducible refine Qa (N:=13) rfl ?_);refine Qb (Pg gb15 64) (Qc 26 1 (Pg gb15 0) (Pg gb15 64) (Ve gb15) _ rfl rfl) rfl ?_)
      |((with_reducible refine Qa (N:=14) rfl ?_);refine Qb (Ii t2) (Qd sT3 gb15 (64) (Ii t2) ((xv (Value.int .i8) t1 [Ii t2,Ii t3,Ii t4,Ii t5,Ii t6,Ii t7,.bool t8,.bool t9,.bool t10,Ii t11,Ii t12])) BKb15.out ((Qi (n:=64) LN_t1.out 0 64 (by omega)).trans rfl) _ rfl rfl) rfl ?_)
      |((with_reducible refine Qa (N:=18) rfl ?_);refine Qb (Pg gb15 0) (Qc 30 0 (Pg gb15 0) (Pg gb15 0) (Xv gb15) _ rfl rfl) rfl ?_)
      |((with_reducible refine Qa (N:=19) rfl ?_);refine Qb (Pg gb15 66) (Qc 26 3 (Pg gb15 0) (Pg gb15 66) (XL gb15) _ rfl rfl) rfl ?_)
      |((with_reducible refine Qa (N:=20) rfl ?_);refine Qb (Ii t4) (Qd sT3 gb15 (66) (Ii t4) ((xv (Value.int .i8) t1 [Ii t2,Ii t3,Ii t4,Ii t5,Ii t6,Ii t7,.bool t8,.bool t9,.bool t10,Ii t11,Ii t12])) BKb15.out ((Qi (n:=64) LN_t1.out 2 66 (by omega)).trans rfl) _ rfl rfl) rfl ?_)
      |((with_reducible refine Qa (N:=24) rfl ?_);refine Qb (Pg gb15 74) (Qc 30 5 (Pg gb15 0) (Pg gb15 74) (Kd gb15) _ rfl rfl) rfl ?_)
      |((with_reducible refine Qa (N:=25) rfl ?_);refine Qb (Ii t12) (Qd sT3 gb15 (74) (Ii t12) ((xv (Value.int .i8) t1 [Ii t2,Ii t3,Ii t4,Ii t5,Ii t6,Ii t7,.bool t8,.bool t9,.bool t10,Ii t11,Ii t12])) BKb15.out ((Qi (n:=64) LN_t1.out 10 74 (by omega)).trans rfl) _ rfl rfl) rfl ?_))
     (try simp only [Act.put,sI,sZ,sS])
     go_ret
     exact ⟨by first|rfl|(simp;done)|(simp [*];done),HL.out⟩
   ·
    rw [if_neg c19] at H
    have c19b0:(t4==(-1))=false:=beq_eq_false_iff_ne.mpr c19
    have c19b1:(t4 != (-1))=true:=bne_iff_ne.mpr c19
    have hc19:=hid c19
    clear c19
    obtain rfl:=Option.some.inj H
    clear H
    go_enter Tryz.func5,Tryz.ntmps5
    have k34:=True.intro
    go_wp2_with (first
     |(go_at_call 7;clear k34;refine (Jb.c k (⟨#[98,101,103,105,110,10,102,111,114,115,121,116,104,32,56,47,56,47,56,47,56,47,56,47,49,75,54,47,56,47,107,54,82,10,115,116,105,112,32,35,49,10,101,110,100,10]⟩:ByteArray) t1 t2 t3 t4 t5 t6 t7 t8 t9 t10 t11 t12 t13 t14 _ A16.out).mono ?_;rintro e_ w35 ⟨rfl,ln_t1,hb_⟩;have LN_t1:=hid ln_t1;clear ln_t1;replace HL:=hid (HL.out.trans (hb_.mono HL.out.size));clear hb_)
     |((with_reducible refine Qa (N:=1) rfl ?_);obtain ⟨gb15,hgb15⟩:∃ g_,w35.heap.size=g_:=⟨_,rfl⟩;refine Qq KI gb15 hgb15 rfl rfl ?_;intro w36 hb_ hB_ hs_;have GEb15:Hid (w.heap.size≤gb15):=hid (by have:=HL.out.size;omega);replace HL:=hid (HL.out.trans (hb_.mono GEb15.out));have BKb15:=hid hB_;clear hb_ hB_ hs_ hgb15)
     |((with_reducible refine Qf (t:=30) (p:=1) rfl ?_);refine Qg KI gb15 0 (xv (Value.int .i8) zL [Ii 0,Ii 0,Ii 0,Ii 0,Ii 0,Ii 0,.bool false,.bool false,.bool false,Ii 0,Ii 0]) (xv (Value.int .i8) t1 [Ii t2,Ii t3,Ii t4,Ii t5,Ii t6,Ii t7,.bool t8,.bool t9,.bool t10,Ii t11,Ii t12]) (xv (Value.int .i8) t1 [Ii t2,Ii t3,Ii t4,Ii t5,Ii t6,Ii t7,.bool t8,.bool t9,.bool t10,Ii t11,Ii t12]) BKb15.out (by rw [show (xv (Value.int .i8) t1 [Ii t2,Ii t3,Ii t4,Ii t5,Ii t6,Ii t7,.bool t8,.bool t9,.bool t10,Ii t11,Ii t12])=xv (Value.int .i8) t1 [Ii t2,Ii t3,Ii t4,Ii t5,Ii t6,Ii t7,.bool t8,.bool t9,.bool t10,Ii t11,Ii t12] from rfl,QE,show t1.length=64 from LN_t1.out];rfl) (XX Qh 75 rfl) (XH (fun _=>rfl) (by intro v_ hv_;simp at hv_;rcases hv_ with rfl|rfl|rfl|rfl|rfl|rfl|rfl|rfl|rfl|rfl|rfl <;> rfl)) (XI Qh LN_t1.out rfl) rfl _ _ rfl rfl rfl ?_;intro w37 ho_ hB_;replace HL:=hid (ho_.below HL.out GEb15.out);replace BKb15:=hid hB_;clear ho_ hB_)
     |((with_reducible refine Qa (N:=12) rfl ?_);refine Qb (Pg gb15 0) (Qc 30 0 (Pg gb15 0) (Pg gb15 0) (Xv gb15) _ rfl rfl) rfl ?_)
     |((with_reducible refine Qa (N:=13) rfl ?_);refine Qb (Pg gb15 64) (Qc 26 1 (Pg gb15 0) (Pg gb15 64) (Ve gb15) _ rfl rfl) rfl ?_)
     |((with_reducible refine Qa (N:=14) rfl ?_);refine Qb (Ii t2) (Qd sT3 gb15 (64) (Ii t2) ((xv (Value.int .i8) t1 [Ii t2,Ii t3,Ii t4,Ii t5,Ii t6,Ii t7,.bool t8,.bool t9,.bool t10,Ii t11,Ii t12])) BKb15.out ((Qi (n:=64) LN_t1.out 0 64 (by omega)).trans rfl) _ rfl rfl) rfl ?_)
     |((with_reducible refine Qa (N:=18) rfl ?_);refine Qb (Pg gb15 0) (Qc 30 0 (Pg gb15 0) (Pg gb15 0) (Xv gb15) _ rfl rfl) rfl ?_)
     |((with_reducible refine Qa (N:=19) rfl ?_);refine Qb (Pg gb15 66) (Qc 26 3 (Pg gb15 0) (Pg gb15 66) (XL gb15) _ rfl rfl) rfl ?_)
     |((with_reducible refine Qa (N:=20) rfl ?_);refine Qb (Ii t4) (Qd sT3 gb15 (66) (Ii t4) ((xv (Value.int .i8) t1 [Ii t2,Ii t3,Ii t4,Ii t5,Ii t6,Ii t7,.bool t8,.bool t9,.bool t10,Ii t11,Ii t12])) BKb15.out ((Qi (n:=64) LN_t1.out 2 66 (by omega)).trans rfl) _ rfl rfl) rfl ?_))
    (try simp only [Act.put,sI,sZ,sS])
    go_ret
    exact ⟨by first|rfl|(simp;done)|(simp [*];done),HL.out⟩
  ·
   rw [if_neg c18] at H
   have c18b0:(t2==0)=false:=beq_eq_false_iff_ne.mpr c18
   have c18b1:(t2 != 0)=true:=bne_iff_ne.mpr c18
   have hc18:=hid c18
   clear c18
   obtain rfl:=Option.some.inj H
   clear H
   go_enter Tryz.func5,Tryz.ntmps5
   have k38:=True.intro
   go_wp2_with (first
    |(go_at_call 7;clear k38;refine (Jb.c k (⟨#[98,101,103,105,110,10,102,111,114,115,121,116,104,32,56,47,56,47,56,47,56,47,56,47,49,75,54,47,56,47,107,54,82,10,115,116,105,112,32,35,49,10,101,110,100,10]⟩:ByteArray) t1 t2 t3 t4 t5 t6 t7 t8 t9 t10 t11 t12 t13 t14 _ A16.out).mono ?_;rintro e_ w39 ⟨rfl,ln_t1,hb_⟩;have LN_t1:=hid ln_t1;clear ln_t1;replace HL:=hid (HL.out.trans (hb_.mono HL.out.size));clear hb_)
    |((with_reducible refine Qa (N:=1) rfl ?_);obtain ⟨gb15,hgb15⟩:∃ g_,w39.heap.size=g_:=⟨_,rfl⟩;refine Qq KI gb15 hgb15 rfl rfl ?_;intro w40 hb_ hB_ hs_;have GEb15:Hid (w.heap.size≤gb15):=hid (by have:=HL.out.size;omega);replace HL:=hid (HL.out.trans (hb_.mono GEb15.out));have BKb15:=hid hB_;clear hb_ hB_ hs_ hgb15)
    |((with_reducible refine Qf (t:=30) (p:=1) rfl ?_);refine Qg KI gb15 0 (xv (Value.int .i8) zL [Ii 0,Ii 0,Ii 0,Ii 0,Ii 0,Ii 0,.bool false,.bool false,.bool false,Ii 0,Ii 0]) (xv (Value.int .i8) t1 [Ii t2,Ii t3,Ii t4,Ii t5,Ii t6,Ii t7,.bool t8,.bool t9,.bool t10,Ii t11,Ii t12]) (xv (Value.int .i8) t1 [Ii t2,Ii t3,Ii t4,Ii t5,Ii t6,Ii t7,.bool t8,.bool t9,.bool t10,Ii t11,Ii t12]) BKb15.out (by rw [show (xv (Value.int .i8) t1 [Ii t2,Ii t3,Ii t4,Ii t5,Ii t6,Ii t7,.bool t8,.bool t9,.bool t10,Ii t11,Ii t12])=xv (Value.int .i8) t1 [Ii t2,Ii t3,Ii t4,Ii t5,Ii t6,Ii t7,.bool t8,.bool t9,.bool t10,Ii t11,Ii t12] from rfl,QE,show t1.length=64 from LN_t1.out];rfl) (XX Qh 75 rfl) (XH (fun _=>rfl) (by intro v_ hv_;simp at hv_;rcases hv_ with rfl|rfl|rfl|rfl|rfl|rfl|rfl|rfl|rfl|rfl|rfl <;> rfl)) (XI Qh LN_t1.out rfl) rfl _ _ rfl rfl rfl ?_;intro w41 ho_ hB_;replace HL:=hid (ho_.below HL.out GEb15.out);replace BKb15:=hid hB_;clear ho_ hB_)
    |((with_reducible refine Qa (N:=12) rfl ?_);refine Qb (Pg gb15 0) (Qc 30 0 (Pg gb15 0) (Pg gb15 0) (Xv gb15) _ rfl rfl) rfl ?_)
    |((with_reducible refine Qa (N:=13) rfl ?_);refine Qb (Pg gb15 64) (Qc 26 1 (Pg gb15 0) (Pg gb15 64) (Ve gb15) _ rfl rfl) rfl ?_)
    |((with_reducible refine Qa (N:=14) rfl ?_);refine Qb (Ii t2) (Qd sT3 gb15 (64) (Ii t2) ((xv (Value.int .i8) t1 [Ii t2,Ii t3,Ii t4,Ii t5,Ii t6,Ii t7,.bool t8,.bool t9,.bool t10,Ii t11,Ii t12])) BKb15.out ((Qi (n:=64) LN_t1.out 0 64 (by omega)).trans rfl) _ rfl rfl) rfl ?_))
   (try simp only [Act.put,sI,sZ,sS])
   go_ret
   exact ⟨by first|rfl|(simp;done)|(simp [*];done),HL.out⟩
 ·
  rw [if_neg c17] at H
  have c17b0:(t14==0)=false:=beq_eq_false_iff_ne.mpr c17
  have c17b1:(t14 != 0)=true:=bne_iff_ne.mpr c17
  have hc17:=hid c17
  clear c17
  obtain rfl:=Option.some.inj H
  clear H
  go_enter Tryz.func5,Tryz.ntmps5
  have k42:=True.intro
  go_wp2_with (first
   |(go_at_call 7;clear k42;refine (Jb.c k (⟨#[98,101,103,105,110,10,102,111,114,115,121,116,104,32,56,47,56,47,56,47,56,47,56,47,49,75,54,47,56,47,107,54,82,10,115,116,105,112,32,35,49,10,101,110,100,10]⟩:ByteArray) t1 t2 t3 t4 t5 t6 t7 t8 t9 t10 t11 t12 t13 t14 _ A16.out).mono ?_;rintro e_ w43 ⟨rfl,ln_t1,hb_⟩;have LN_t1:=hid ln_t1;clear ln_t1;replace HL:=hid (HL.out.trans (hb_.mono HL.out.size));clear hb_)
   |((with_reducible refine Qa (N:=1) rfl ?_);obtain ⟨gb15,hgb15⟩:∃ g_,w43.heap.size=g_:=⟨_,rfl⟩;refine Qq KI gb15 hgb15 rfl rfl ?_;intro w44 hb_ hB_ hs_;have GEb15:Hid (w.heap.size≤gb15):=hid (by have:=HL.out.size;omega);replace HL:=hid (HL.out.trans (hb_.mono GEb15.out));have BKb15:=hid hB_;clear hb_ hB_ hs_ hgb15)
   |((with_reducible refine Qf (t:=30) (p:=1) rfl ?_);refine Qg KI gb15 0 (xv (Value.int .i8) zL [Ii 0,Ii 0,Ii 0,Ii 0,Ii 0,Ii 0,.bool false,.bool false,.bool false,Ii 0,Ii 0]) (xv (Value.int .i8) t1 [Ii t2,Ii t3,Ii t4,Ii t5,Ii t6,Ii t7,.bool t8,.bool t9,.bool t10,Ii t11,Ii t12]) (xv (Value.int .i8) t1 [Ii t2,Ii t3,Ii t4,Ii t5,Ii t6,Ii t7,.bool t8,.bool t9,.bool t10,Ii t11,Ii t12]) BKb15.out (by rw [show (xv (Value.int .i8) t1 [Ii t2,Ii t3,Ii t4,Ii t5,Ii t6,Ii t7,.bool t8,.bool t9,.bool t10,Ii t11,Ii t12])=xv (Value.int .i8) t1 [Ii t2,Ii t3,Ii t4,Ii t5,Ii t6,Ii t7,.bool t8,.bool t9,.bool t10,Ii t11,Ii t12] from rfl,QE,show t1.length=64 from LN_t1.out];rfl) (XX Qh 75 rfl) (XH (fun _=>rfl) (by intro v_ hv_;simp at hv_;rcases hv_ with rfl|rfl|rfl|rfl|rfl|rfl|rfl|rfl|rfl|rfl|rfl <;> rfl)) (XI Qh LN_t1.out rfl) rfl _ _ rfl rfl rfl ?_;intro w45 ho_ hB_;replace HL:=hid (ho_.below HL.out GEb15.out);replace BKb15:=hid hB_;clear ho_ hB_))
  (try simp only [Act.put,sI,sZ,sS])
  go_ret
  exact ⟨by first|rfl|(simp;done)|(simp [*];done),HL.out⟩
def Zj.f(k:Nat)(a0_0:List Int)(a0_1 a0_2 a0_3 a0_4 a0_5 a0_6:Int)(a0_7 a0_8 a0_9:Bool)(a0_10 a0_11 a1 a2:Int):Option (Bool):=(JR.f k).bind fun t2=>(if t2=true then ((JY.f k a0_0 a0_1 a0_2 a0_3 a0_4 a0_5 a0_6 a0_7 a0_8 a0_9 a0_10 a0_11).bind fun bt3=>(if bt3.2=0 then (if (bt3.1.size:Int)=0 then (none) else (if 0≤(Int.tmod (wrap64 (a1)) (bt3.1.size:Int)) then (if (Int.tmod (wrap64 (a1)) (bt3.1.size:Int))≤(bt3.1.size:Int) then ((Jb.f k (bt3.1.extract 0 ((Int.tmod (wrap64 (a1)) (bt3.1.size:Int)):Int).toNat)).bind fun bt5=>(if bt3.1.size+(strOfNums [a2]).size≤9223372036854775807 then ((Jb.f k (bt3.1++(strOfNums [a2]))).bind fun bt21=>(if bt5.2.2.2.2.2.2.2.2.2.2.2.2.2=1 then (if bt5.2.2.2.2.2.2.2.2.2.2.2.2.1=(Int.tmod (wrap64 (a1)) (bt3.1.size:Int)) then (if bt21.2.2.2.2.2.2.2.2.2.2.2.2.2=2 then (some (bt21.2.2.2.2.2.2.2.2.2.2.2.2.1==(bt3.1.size:Int))) else (some false)) else (some false)) else (some false))) else (none))) else (none)) else (none))) else (some (bt3.1.toList==([]:List UInt8))))) else (some false))
theorem Zj.c(k:Nat)(a0_0:List Int)(a0_1 a0_2 a0_3 a0_4 a0_5 a0_6:Int)(a0_7 a0_8 a0_9:Bool)(a0_10 a0_11 a1 a2:Int)(hla0_0:a0_0.length=64)(r1:Bool)(w:World)(htb:Tb w)(hz0:0<w.heap.size)(h:Zj.f k a0_0 a0_1 a0_2 a0_3 a0_4 a0_5 a0_6 a0_7 a0_8 a0_9 a0_10 a0_11 a1 a2=some r1):
 Calls Tryz.prog 3 #[.agg (xv (Value.int .i8) a0_0 [Ii a0_1,Ii a0_2,Ii a0_3,Ii a0_4,Ii a0_5,Ii a0_6,.bool a0_7,.bool a0_8,.bool a0_9,Ii a0_10,Ii a0_11]),.int .u16 a1,.int .u8 a2] w fun e w'=>e=.returned (.bool r1)∧Below w.heap.size w w':=by
 have TBH:=hid htb
 have TZH:=hid hz0
 clear htb hz0
 have LN_a0_0:=hid hla0_0
 clear hla0_0
 have HL:=hid (Below.refl w.heap.size w)
 have H:((JR.f k).bind fun t2=>(if t2=true then ((JY.f k a0_0 a0_1 a0_2 a0_3 a0_4 a0_5 a0_6 a0_7 a0_8 a0_9 a0_10 a0_11).bind fun bt3=>(if bt3.2=0 then (if (bt3.1.size:Int)=0 then (none) else (if 0≤(Int.tmod (wrap64 (a1)) (bt3.1.size:Int)) then (if (Int.tmod (wrap64 (a1)) (bt3.1.size:Int))≤(bt3.1.size:Int) then ((Jb.f k (bt3.1.extract 0 ((Int.tmod (wrap64 (a1)) (bt3.1.size:Int)):Int).toNat)).bind fun bt5=>(if bt3.1.size+(strOfNums [a2]).size≤9223372036854775807 then ((Jb.f k (bt3.1++(strOfNums [a2]))).bind fun bt21=>(if bt5.2.2.2.2.2.2.2.2.2.2.2.2.2=1 then (if bt5.2.2.2.2.2.2.2.2.2.2.2.2.1=(Int.tmod (wrap64 (a1)) (bt3.1.size:Int)) then (if bt21.2.2.2.2.2.2.2.2.2.2.2.2.2=2 then (some (bt21.2.2.2.2.2.2.2.2.2.2.2.2.1==(bt3.1.size:Int))) else (some false)) else (some false)) else (some false))) else (none))) else (none)) else (none))) else (some (bt3.1.toList==([]:List UInt8))))) else (some false)))=some r1:=h
 clear h
 replace H:=Ia H
 obtain ⟨t2,A36_,H⟩:=H
 have A36:=hid A36_
 clear A36_
 cases t2 with
 |true=>
  rw [if_pos rfl] at H
  have H':=hid H
  clear H
  go_enter Tryz.func3,Tryz.ntmps3
  have k40:=True.intro
  go_wp2_with (first
   |((with_reducible refine Qa (N:=3) rfl ?_);obtain ⟨gb1,hgb1⟩:∃ g_,w.heap.size=g_:=⟨_,rfl⟩;refine Jx (xv (Value.int .i8) a0_0 [Ii a0_1,Ii a0_2,Ii a0_3,Ii a0_4,Ii a0_5,Ii a0_6,.bool a0_7,.bool a0_8,.bool a0_9,Ii a0_10,Ii a0_11]) gb1 hgb1 rfl _ rfl rfl ?_;intro w39 hb_ hB_ hs_;have GEb1:Hid (w.heap.size≤gb1):=hid (by have:=HL.out.size;omega);replace HL:=hid (HL.out.trans (hb_.mono GEb1.out));have BKb1:=hid hB_;clear hb_ hB_ hs_ hgb1)
   |(go_at_call 5;clear k40;refine (JR.c k true _ A36.out).mono ?_;rintro e_ w41 ⟨rfl,hb_⟩;replace BKb1:=hid (BKb1.out.below hb_ BKb1.out.lt);replace HL:=hid (HL.out.trans (hb_.mono HL.out.size));clear hb_)
   |((with_reducible refine Qa (N:=19) rfl ?_);refine Qb (.agg (xv (Value.int .i8) a0_0 [Ii a0_1,Ii a0_2,Ii a0_3,Ii a0_4,Ii a0_5,Ii a0_6,.bool a0_7,.bool a0_8,.bool a0_9,Ii a0_10,Ii a0_11])) (QI KI gb1 0 (xv (Value.int .i8) a0_0 [Ii a0_1,Ii a0_2,Ii a0_3,Ii a0_4,Ii a0_5,Ii a0_6,.bool a0_7,.bool a0_8,.bool a0_9,Ii a0_10,Ii a0_11]) (xv (Value.int .i8) a0_0 [Ii a0_1,Ii a0_2,Ii a0_3,Ii a0_4,Ii a0_5,Ii a0_6,.bool a0_7,.bool a0_8,.bool a0_9,Ii a0_10,Ii a0_11]) BKb1.out (XX LN_a0_0.out 75 rfl) (QbI LN_a0_0.out 75 rfl) _ rfl rfl) rfl ?_))
  (try simp only [Act.put,sI,sZ,sS])
  have H:=H'.out
  clear H'
  replace H:=Ia H
  obtain ⟨⟨t3,t4⟩,A38_,H⟩:=H
  dsimp only at H
  have A38:=hid A38_
  clear A38_
  by_cases c42:t4=0
  ·
   rw [if_pos c42] at H
   have c42b0:(t4==0)=true:=beq_iff_eq.mpr c42
   have c42b1:(t4 != 0)=false:=bne_eq_false_iff_eq.mpr c42
   have hc42:=hid c42
   clear c42
   by_cases c43:(t3.size:Int)=0
   ·
    rw [if_pos c43] at H
    exact absurd H (by simp)
   ·
    rw [if_neg c43] at H
    have c43b0:((t3.size:Int)==0)=false:=beq_eq_false_iff_ne.mpr c43
    have c43b1:((t3.size:Int) != 0)=true:=bne_iff_ne.mpr c43
    have c43b2:¬ ((t3.size:Int)=0):=c43
    have c43b3:¬ t3.size=0:=by omega
    have c43b4:¬ t3=ByteArray.empty:=fun h_=>c43 (by rw [h_];rfl)
    have hc43:=hid c43
    clear c43
    by_cases c44:0≤(Int.tmod (wrap64 (a1)) (t3.size:Int))
    ·
     rw [if_pos c44] at H
     have c44b0:decide (0≤(Int.tmod (wrap64 (a1)) (t3.size:Int)))=true:=decide_eq_true c44
     have hc44:=hid c44
     clear c44
     by_cases c45:(Int.tmod (wrap64 (a1)) (t3.size:Int))≤(t3.size:Int)
     ·
      rw [if_pos c45] at H
      have c45b0:decide ((Int.tmod (wrap64 (a1)) (t3.size:Int))≤(t3.size:Int))=true:=decide_eq_true c45
      have hc45:=hid c45
      clear c45
      have H':=hid H
      clear H
      have k47:=True.intro
      go_wp2_with (first
       |(go_at_call 6;clear k47;refine (JY.c k a0_0 a0_1 a0_2 a0_3 a0_4 a0_5 a0_6 a0_7 a0_8 a0_9 a0_10 a0_11 LN_a0_0.out t3 t4 _ (TBH.out.below HL.out TZH.out) (Nat.lt_of_lt_of_le TZH.out HL.out.size) A38.out).mono ?_;rintro e_ w48 ⟨rfl,hb_⟩;replace BKb1:=hid (BKb1.out.below hb_ BKb1.out.lt);replace HL:=hid (HL.out.trans (hb_.mono HL.out.size));clear hb_)
       |((with_reducible refine Qa (N:=35) rfl ?_);refine Qb (.string (t3.extract 0 ((Int.tmod (wrap64 (a1)) (t3.size:Int)):Int).toNat)) (VD 9 JV t3 (Int.tmod (wrap64 (a1)) (t3.size:Int)) hc44.out hc45.out _ _ rfl rfl rfl) rfl ?_))
      (try simp only [Act.put,sI,sZ,sS])
      have H:=H'.out
      clear H'
      replace H:=Ia H
      obtain ⟨⟨t5,t6,t7,t8,t9,t10,t11,t12,t13,t14,t15,t16,t17,t18⟩,A46_,H⟩:=H
      dsimp only at H
      have A46:=hid A46_
      clear A46_
      by_cases c49:t3.size+(strOfNums [a2]).size≤9223372036854775807
      ·
       rw [if_pos c49] at H
       have hc49:=hid c49
       clear c49
       have H':=hid H
       clear H
       have k51:=True.intro
       go_wp2_with (first
        |(go_at_call 7;clear k51;refine (Jb.c k (t3.extract 0 ((Int.tmod (wrap64 (a1)) (t3.size:Int)):Int).toNat) t5 t6 t7 t8 t9 t10 t11 t12 t13 t14 t15 t16 t17 t18 _ A46.out).mono ?_;rintro e_ w52 ⟨rfl,ln_t5,hb_⟩;have LN_t5:=hid ln_t5;clear ln_t5;replace BKb1:=hid (BKb1.out.below hb_ BKb1.out.lt);replace HL:=hid (HL.out.trans (hb_.mono HL.out.size));clear hb_)
        |((with_reducible refine Qa (N:=10) rfl ?_);obtain ⟨gb19,hgb19⟩:∃ g_,w52.heap.size=g_:=⟨_,rfl⟩;refine Qq KI gb19 hgb19 rfl rfl ?_;intro w53 hb_ hB_ hs_;have GEb19:Hid (w.heap.size≤gb19):=hid (by have:=HL.out.size;omega);have NBb1_b19:Hid (gb1≠gb19):=hid (by have:=BKb1.out.lt;omega);have NBb19_b1:Hid (gb19≠gb1):=hid (by have:=NBb1_b19.out;omega);replace BKb1:=hid (BKb1.out.below hb_ (by rw [← hgb19];exact BKb1.out.lt));replace HL:=hid (HL.out.trans (hb_.mono GEb19.out));have BKb19:=hid hB_;clear hb_ hB_ hs_ hgb19)
        |((with_reducible refine Qf (t:=30) (p:=10) rfl ?_);refine Qg KI gb19 0 (xv (Value.int .i8) zL [Ii 0,Ii 0,Ii 0,Ii 0,Ii 0,Ii 0,.bool false,.bool false,.bool false,Ii 0,Ii 0]) (xv (Value.int .i8) t5 [Ii t6,Ii t7,Ii t8,Ii t9,Ii t10,Ii t11,.bool t12,.bool t13,.bool t14,Ii t15,Ii t16]) (xv (Value.int .i8) t5 [Ii t6,Ii t7,Ii t8,Ii t9,Ii t10,Ii t11,.bool t12,.bool t13,.bool t14,Ii t15,Ii t16]) BKb19.out (by rw [show (xv (Value.int .i8) t5 [Ii t6,Ii t7,Ii t8,Ii t9,Ii t10,Ii t11,.bool t12,.bool t13,.bool t14,Ii t15,Ii t16])=xv (Value.int .i8) t5 [Ii t6,Ii t7,Ii t8,Ii t9,Ii t10,Ii t11,.bool t12,.bool t13,.bool t14,Ii t15,Ii t16] from rfl,QE,show t5.length=64 from LN_t5.out];rfl) (XX Qh 75 rfl) (XH (fun _=>rfl) (by intro v_ hv_;simp at hv_;rcases hv_ with rfl|rfl|rfl|rfl|rfl|rfl|rfl|rfl|rfl|rfl|rfl <;> rfl)) (XI Qh LN_t5.out rfl) rfl _ _ rfl rfl rfl ?_;intro w54 ho_ hB_;replace BKb1:=hid (BKb1.out.off ho_ NBb1_b19.out);replace HL:=hid (ho_.below HL.out GEb19.out);replace BKb19:=hid hB_;clear ho_ hB_)
        |((with_reducible refine Qa (N:=43) rfl ?_);obtain ⟨go20,hgo20⟩:∃ g_,w54.heap.size=g_:=⟨_,rfl⟩;refine XY (e:=5) 1 #[.int .u8 a2] go20 hgo20 rfl _ rfl (fun w_=>by (try simp only [List.map_toArray,List.map_cons,List.map_nil]);kernel_rfl) ?_;intro w55 hb_ hB_ hs_;have GEo20:Hid (w.heap.size≤go20):=hid (by have:=HL.out.size;omega);have NBb1_o20:Hid (gb1≠go20):=hid (by have:=BKb1.out.lt;omega);have NBo20_b1:Hid (go20≠gb1):=hid (by have:=NBb1_o20.out;omega);replace BKb1:=hid (BKb1.out.below hb_ (by rw [← hgo20];exact BKb1.out.lt));have NBb19_o20:Hid (gb19≠go20):=hid (by have:=BKb19.out.lt;omega);have NBo20_b19:Hid (go20≠gb19):=hid (by have:=NBb19_o20.out;omega);replace BKb19:=hid (BKb19.out.below hb_ (by rw [← hgo20];exact BKb19.out.lt));replace HL:=hid (HL.out.trans (hb_.mono GEo20.out));have BKo20:=hid hB_;clear hb_ hB_ hs_ hgo20;obtain ⟨uo20,hu_⟩:∃ u_,u_=(Value.slice (some ⟨go20,0,none⟩) 1 1):=⟨_,rfl⟩;have SWo20:Hid (Own w55 w.heap.size 5 (uo20) ([a2].map (Value.int .u8))):=hid (by rw [hu_];exact Own.lit GEo20.out BKo20.out rfl (by simp [maxLen]));rw [← hu_];clear hu_ BKo20)
        |((with_reducible refine Qa (N:=44) rfl ?_);refine Qb (.string (strOfNums [a2])) (QdL SWo20.out (by simp) 38 9 5 Qhc ub5 JV _ rfl rfl) rfl ?_)
        |((with_reducible refine Qa (N:=45) rfl ?_);refine Qb (.string (t3++(strOfNums [a2]))) (Jy 9 t3 (strOfNums [a2]) hc49.out _ _ _ rfl rfl rfl) rfl ?_))
       (try simp only [Act.put,sI,sZ,sS])
       have H:=H'.out
       clear H'
       replace H:=Ia H
       obtain ⟨⟨t21,t22,t23,t24,t25,t26,t27,t28,t29,t30,t31,t32,t33,t34⟩,A50_,H⟩:=H
       dsimp only at H
       have A50:=hid A50_
       clear A50_
       by_cases c56:t18=1
       ·
        rw [if_pos c56] at H
        have c56b0:(t18==1)=true:=beq_iff_eq.mpr c56
        have c56b1:(t18 != 1)=false:=bne_eq_false_iff_eq.mpr c56
        have hc56:=hid c56
        clear c56
        by_cases c57:t17=(Int.tmod (wrap64 (a1)) (t3.size:Int))
        ·
         rw [if_pos c57] at H
         have c57b0:(t17==(Int.tmod (wrap64 (a1)) (t3.size:Int)))=true:=beq_iff_eq.mpr c57
         have c57b1:(t17 != (Int.tmod (wrap64 (a1)) (t3.size:Int)))=false:=bne_eq_false_iff_eq.mpr c57
         have hc57:=hid c57
         clear c57
         by_cases c58:t34=2
         ·
          rw [if_pos c58] at H
          have c58b0:(t34==2)=true:=beq_iff_eq.mpr c58
          have c58b1:(t34 != 2)=false:=bne_eq_false_iff_eq.mpr c58
          have hc58:=hid c58
          clear c58
          obtain rfl:=Option.some.inj H
          clear H
          have k59:=True.intro
          go_wp2_with (first
           |(go_at_call 7;clear k59;refine (Jb.c k (t3++(strOfNums [a2])) t21 t22 t23 t24 t25 t26 t27 t28 t29 t30 t31 t32 t33 t34 _ A50.out).mono ?_;rintro e_ w60 ⟨rfl,ln_t21,hb_⟩;have LN_t21:=hid ln_t21;clear ln_t21;replace BKb1:=hid (BKb1.out.below hb_ BKb1.out.lt);replace BKb19:=hid (BKb19.out.below hb_ BKb19.out.lt);replace SWo20:=hid (SWo20.out.below hb_);replace HL:=hid (HL.out.trans (hb_.mono HL.out.size));clear hb_)
           |((with_reducible refine Qa (N:=13) rfl ?_);obtain ⟨gb35,hgb35⟩:∃ g_,w60.heap.size=g_:=⟨_,rfl⟩;refine Qq KI gb35 hgb35 rfl rfl ?_;intro w61 hb_ hB_ hs_;have GEb35:Hid (w.heap.size≤gb35):=hid (by have:=HL.out.size;omega);have NBb1_b35:Hid (gb1≠gb35):=hid (by have:=BKb1.out.lt;omega);have NBb35_b1:Hid (gb35≠gb1):=hid (by have:=NBb1_b35.out;omega);replace BKb1:=hid (BKb1.out.below hb_ (by rw [← hgb35];exact BKb1.out.lt));have NBb19_b35:Hid (gb19≠gb35):=hid (by have:=BKb19.out.lt;omega);have NBb35_b19:Hid (gb35≠gb19):=hid (by have:=NBb19_b35.out;omega);replace BKb19:=hid (BKb19.out.below hb_ (by rw [← hgb35];exact BKb19.out.lt));replace SWo20:=hid (SWo20.out.below (by rw [hgb35];exact hb_));replace HL:=hid (HL.out.trans (hb_.mono GEb35.out));have BKb35:=hid hB_;clear hb_ hB_ hs_ hgb35)
           |((with_reducible refine Qf (t:=30) (p:=13) rfl ?_);refine Qg KI gb35 0 (xv (Value.int .i8) zL [Ii 0,Ii 0,Ii 0,Ii 0,Ii 0,Ii 0,.bool false,.bool false,.bool false,Ii 0,Ii 0]) (xv (Value.int .i8) t21 [Ii t22,Ii t23,Ii t24,Ii t25,Ii t26,Ii t27,.bool t28,.bool t29,.bool t30,Ii t31,Ii t32]) (xv (Value.int .i8) t21 [Ii t22,Ii t23,Ii t24,Ii t25,Ii t26,Ii t27,.bool t28,.bool t29,.bool t30,Ii t31,Ii t32]) BKb35.out (by rw [show (xv (Value.int .i8) t21 [Ii t22,Ii t23,Ii t24,Ii t25,Ii t26,Ii t27,.bool t28,.bool t29,.bool t30,Ii t31,Ii t32])=xv (Value.int .i8) t21 [Ii t22,Ii t23,Ii t24,Ii t25,Ii t26,Ii t27,.bool t28,.bool t29,.bool t30,Ii t31,Ii t32] from rfl,QE,show t21.length=64 from LN_t21.out];rfl) (XX Qh 75 rfl) (XH (fun _=>rfl) (by intro v_ hv_;simp at hv_;rcases hv_ with rfl|rfl|rfl|rfl|rfl|rfl|rfl|rfl|rfl|rfl|rfl <;> rfl)) (XI Qh LN_t21.out rfl) rfl _ _ rfl rfl rfl ?_;intro w62 ho_ hB_;replace BKb1:=hid (BKb1.out.off ho_ NBb1_b35.out);replace BKb19:=hid (BKb19.out.off ho_ NBb19_b35.out);replace SWo20:=hid (SWo20.out.off ho_ BKb35.out (by decide));replace HL:=hid (ho_.below HL.out GEb35.out);replace BKb35:=hid hB_;clear ho_ hB_))
          (try simp only [Act.put,sI,sZ,sS])
          go_ret
          exact ⟨by first|rfl|(simp;done)|(simp [*];done),HL.out⟩
         ·
          rw [if_neg c58] at H
          have c58b0:(t34==2)=false:=beq_eq_false_iff_ne.mpr c58
          have c58b1:(t34 != 2)=true:=bne_iff_ne.mpr c58
          have hc58:=hid c58
          clear c58
          obtain rfl:=Option.some.inj H
          clear H
          have k63:=True.intro
          go_wp2_with (first
           |(go_at_call 7;clear k63;refine (Jb.c k (t3++(strOfNums [a2])) t21 t22 t23 t24 t25 t26 t27 t28 t29 t30 t31 t32 t33 t34 _ A50.out).mono ?_;rintro e_ w64 ⟨rfl,ln_t21,hb_⟩;have LN_t21:=hid ln_t21;clear ln_t21;replace BKb1:=hid (BKb1.out.below hb_ BKb1.out.lt);replace BKb19:=hid (BKb19.out.below hb_ BKb19.out.lt);replace SWo20:=hid (SWo20.out.below hb_);replace HL:=hid (HL.out.trans (hb_.mono HL.out.size));clear hb_)
           |((with_reducible refine Qa (N:=13) rfl ?_);obtain ⟨gb35,hgb35⟩:∃ g_,w64.heap.size=g_:=⟨_,rfl⟩;refine Qq KI gb35 hgb35 rfl rfl ?_;intro w65 hb_ hB_ hs_;have GEb35:Hid (w.heap.size≤gb35):=hid (by have:=HL.out.size;omega);have NBb1_b35:Hid (gb1≠gb35):=hid (by have:=BKb1.out.lt;omega);have NBb35_b1:Hid (gb35≠gb1):=hid (by have:=NBb1_b35.out;omega);replace BKb1:=hid (BKb1.out.below hb_ (by rw [← hgb35];exact BKb1.out.lt));have NBb19_b35:Hid (gb19≠gb35):=hid (by have:=BKb19.out.lt;omega);have NBb35_b19:Hid (gb35≠gb19):=hid (by have:=NBb19_b35.out;omega);replace BKb19:=hid (BKb19.out.below hb_ (by rw [← hgb35];exact BKb19.out.lt));replace SWo20:=hid (SWo20.out.below (by rw [hgb35];exact hb_));replace HL:=hid (HL.out.trans (hb_.mono GEb35.out));have BKb35:=hid hB_;clear hb_ hB_ hs_ hgb35)
           |((with_reducible refine Qf (t:=30) (p:=13) rfl ?_);refine Qg KI gb35 0 (xv (Value.int .i8) zL [Ii 0,Ii 0,Ii 0,Ii 0,Ii 0,Ii 0,.bool false,.bool false,.bool false,Ii 0,Ii 0]) (xv (Value.int .i8) t21 [Ii t22,Ii t23,Ii t24,Ii t25,Ii t26,Ii t27,.bool t28,.bool t29,.bool t30,Ii t31,Ii t32]) (xv (Value.int .i8) t21 [Ii t22,Ii t23,Ii t24,Ii t25,Ii t26,Ii t27,.bool t28,.bool t29,.bool t30,Ii t31,Ii t32]) BKb35.out (by rw [show (xv (Value.int .i8) t21 [Ii t22,Ii t23,Ii t24,Ii t25,Ii t26,Ii t27,.bool t28,.bool t29,.bool t30,Ii t31,Ii t32])=xv (Value.int .i8) t21 [Ii t22,Ii t23,Ii t24,Ii t25,Ii t26,Ii t27,.bool t28,.bool t29,.bool t30,Ii t31,Ii t32] from rfl,QE,show t21.length=64 from LN_t21.out];rfl) (XX Qh 75 rfl) (XH (fun _=>rfl) (by intro v_ hv_;simp at hv_;rcases hv_ with rfl|rfl|rfl|rfl|rfl|rfl|rfl|rfl|rfl|rfl|rfl <;> rfl)) (XI Qh LN_t21.out rfl) rfl _ _ rfl rfl rfl ?_;intro w66 ho_ hB_;replace BKb1:=hid (BKb1.out.off ho_ NBb1_b35.out);replace BKb19:=hid (BKb19.out.off ho_ NBb19_b35.out);replace SWo20:=hid (SWo20.out.off ho_ BKb35.out (by decide));replace HL:=hid (ho_.below HL.out GEb35.out);replace BKb35:=hid hB_;clear ho_ hB_))
          (try simp only [Act.put,sI,sZ,sS])
          go_ret
          exact ⟨by first|rfl|(simp;done)|(simp [*];done),HL.out⟩
        ·
         rw [if_neg c57] at H
         have c57b0:(t17==(Int.tmod (wrap64 (a1)) (t3.size:Int)))=false:=beq_eq_false_iff_ne.mpr c57
         have c57b1:(t17 != (Int.tmod (wrap64 (a1)) (t3.size:Int)))=true:=bne_iff_ne.mpr c57
         have hc57:=hid c57
         clear c57
         obtain rfl:=Option.some.inj H
         clear H
         have k67:=True.intro
         go_wp2_with (first
          |(go_at_call 7;clear k67;refine (Jb.c k (t3++(strOfNums [a2])) t21 t22 t23 t24 t25 t26 t27 t28 t29 t30 t31 t32 t33 t34 _ A50.out).mono ?_;rintro e_ w68 ⟨rfl,ln_t21,hb_⟩;have LN_t21:=hid ln_t21;clear ln_t21;replace BKb1:=hid (BKb1.out.below hb_ BKb1.out.lt);replace BKb19:=hid (BKb19.out.below hb_ BKb19.out.lt);replace SWo20:=hid (SWo20.out.below hb_);replace HL:=hid (HL.out.trans (hb_.mono HL.out.size));clear hb_)
          |((with_reducible refine Qa (N:=13) rfl ?_);obtain ⟨gb35,hgb35⟩:∃ g_,w68.heap.size=g_:=⟨_,rfl⟩;refine Qq KI gb35 hgb35 rfl rfl ?_;intro w69 hb_ hB_ hs_;have GEb35:Hid (w.heap.size≤gb35):=hid (by have:=HL.out.size;omega);have NBb1_b35:Hid (gb1≠gb35):=hid (by have:=BKb1.out.lt;omega);have NBb35_b1:Hid (gb35≠gb1):=hid (by have:=NBb1_b35.out;omega);replace BKb1:=hid (BKb1.out.below hb_ (by rw [← hgb35];exact BKb1.out.lt));have NBb19_b35:Hid (gb19≠gb35):=hid (by have:=BKb19.out.lt;omega);have NBb35_b19:Hid (gb35≠gb19):=hid (by have:=NBb19_b35.out;omega);replace BKb19:=hid (BKb19.out.below hb_ (by rw [← hgb35];exact BKb19.out.lt));replace SWo20:=hid (SWo20.out.below (by rw [hgb35];exact hb_));replace HL:=hid (HL.out.trans (hb_.mono GEb35.out));have BKb35:=hid hB_;clear hb_ hB_ hs_ hgb35)
          |((with_reducible refine Qf (t:=30) (p:=13) rfl ?_);refine Qg KI gb35 0 (xv (Value.int .i8) zL [Ii 0,Ii 0,Ii 0,Ii 0,Ii 0,Ii 0,.bool false,.bool false,.bool false,Ii 0,Ii 0]) (xv (Value.int .i8) t21 [Ii t22,Ii t23,Ii t24,Ii t25,Ii t26,Ii t27,.bool t28,.bool t29,.bool t30,Ii t31,Ii t32]) (xv (Value.int .i8) t21 [Ii t22,Ii t23,Ii t24,Ii t25,Ii t26,Ii t27,.bool t28,.bool t29,.bool t30,Ii t31,Ii t32]) BKb35.out (by rw [show (xv (Value.int .i8) t21 [Ii t22,Ii t23,Ii t24,Ii t25,Ii t26,Ii t27,.bool t28,.bool t29,.bool t30,Ii t31,Ii t32])=xv (Value.int .i8) t21 [Ii t22,Ii t23,Ii t24,Ii t25,Ii t26,Ii t27,.bool t28,.bool t29,.bool t30,Ii t31,Ii t32] from rfl,QE,show t21.length=64 from LN_t21.out];rfl) (XX Qh 75 rfl) (XH (fun _=>rfl) (by intro v_ hv_;simp at hv_;rcases hv_ with rfl|rfl|rfl|rfl|rfl|rfl|rfl|rfl|rfl|rfl|rfl <;> rfl)) (XI Qh LN_t21.out rfl) rfl _ _ rfl rfl rfl ?_;intro w70 ho_ hB_;replace BKb1:=hid (BKb1.out.off ho_ NBb1_b35.out);replace BKb19:=hid (BKb19.out.off ho_ NBb19_b35.out);replace SWo20:=hid (SWo20.out.off ho_ BKb35.out (by decide));replace HL:=hid (ho_.below HL.out GEb35.out);replace BKb35:=hid hB_;clear ho_ hB_))
         (try simp only [Act.put,sI,sZ,sS])
         go_ret
         exact ⟨by first|rfl|(simp;done)|(simp [*];done),HL.out⟩
       ·
        rw [if_neg c56] at H
        have c56b0:(t18==1)=false:=beq_eq_false_iff_ne.mpr c56
        have c56b1:(t18 != 1)=true:=bne_iff_ne.mpr c56
        have hc56:=hid c56
        clear c56
        obtain rfl:=Option.some.inj H
        clear H
        have k71:=True.intro
        go_wp2_with (first
         |(go_at_call 7;clear k71;refine (Jb.c k (t3++(strOfNums [a2])) t21 t22 t23 t24 t25 t26 t27 t28 t29 t30 t31 t32 t33 t34 _ A50.out).mono ?_;rintro e_ w72 ⟨rfl,ln_t21,hb_⟩;have LN_t21:=hid ln_t21;clear ln_t21;replace BKb1:=hid (BKb1.out.below hb_ BKb1.out.lt);replace BKb19:=hid (BKb19.out.below hb_ BKb19.out.lt);replace SWo20:=hid (SWo20.out.below hb_);replace HL:=hid (HL.out.trans (hb_.mono HL.out.size));clear hb_)
         |((with_reducible refine Qa (N:=13) rfl ?_);obtain ⟨gb35,hgb35⟩:∃ g_,w72.heap.size=g_:=⟨_,rfl⟩;refine Qq KI gb35 hgb35 rfl rfl ?_;intro w73 hb_ hB_ hs_;have GEb35:Hid (w.heap.size≤gb35):=hid (by have:=HL.out.size;omega);have NBb1_b35:Hid (gb1≠gb35):=hid (by have:=BKb1.out.lt;omega);have NBb35_b1:Hid (gb35≠gb1):=hid (by have:=NBb1_b35.out;omega);replace BKb1:=hid (BKb1.out.below hb_ (by rw [← hgb35];exact BKb1.out.lt));have NBb19_b35:Hid (gb19≠gb35):=hid (by have:=BKb19.out.lt;omega);have NBb35_b19:Hid (gb35≠gb19):=hid (by have:=NBb19_b35.out;omega);replace BKb19:=hid (BKb19.out.below hb_ (by rw [← hgb35];exact BKb19.out.lt));replace SWo20:=hid (SWo20.out.below (by rw [hgb35];exact hb_));replace HL:=hid (HL.out.trans (hb_.mono GEb35.out));have BKb35:=hid hB_;clear hb_ hB_ hs_ hgb35)
         |((with_reducible refine Qf (t:=30) (p:=13) rfl ?_);refine Qg KI gb35 0 (xv (Value.int .i8) zL [Ii 0,Ii 0,Ii 0,Ii 0,Ii 0,Ii 0,.bool false,.bool false,.bool false,Ii 0,Ii 0]) (xv (Value.int .i8) t21 [Ii t22,Ii t23,Ii t24,Ii t25,Ii t26,Ii t27,.bool t28,.bool t29,.bool t30,Ii t31,Ii t32]) (xv (Value.int .i8) t21 [Ii t22,Ii t23,Ii t24,Ii t25,Ii t26,Ii t27,.bool t28,.bool t29,.bool t30,Ii t31,Ii t32]) BKb35.out (by rw [show (xv (Value.int .i8) t21 [Ii t22,Ii t23,Ii t24,Ii t25,Ii t26,Ii t27,.bool t28,.bool t29,.bool t30,Ii t31,Ii t32])=xv (Value.int .i8) t21 [Ii t22,Ii t23,Ii t24,Ii t25,Ii t26,Ii t27,.bool t28,.bool t29,.bool t30,Ii t31,Ii t32] from rfl,QE,show t21.length=64 from LN_t21.out];rfl) (XX Qh 75 rfl) (XH (fun _=>rfl) (by intro v_ hv_;simp at hv_;rcases hv_ with rfl|rfl|rfl|rfl|rfl|rfl|rfl|rfl|rfl|rfl|rfl <;> rfl)) (XI Qh LN_t21.out rfl) rfl _ _ rfl rfl rfl ?_;intro w74 ho_ hB_;replace BKb1:=hid (BKb1.out.off ho_ NBb1_b35.out);replace BKb19:=hid (BKb19.out.off ho_ NBb19_b35.out);replace SWo20:=hid (SWo20.out.off ho_ BKb35.out (by decide));replace HL:=hid (ho_.below HL.out GEb35.out);replace BKb35:=hid hB_;clear ho_ hB_))
        (try simp only [Act.put,sI,sZ,sS])
        go_ret
        exact ⟨by first|rfl|(simp;done)|(simp [*];done),HL.out⟩
      ·
       rw [if_neg c49] at H
       exact absurd H (by simp)
     ·
      rw [if_neg c45] at H
      exact absurd H (by simp)
    ·
     rw [if_neg c44] at H
     exact absurd H (by simp)
  ·
   rw [if_neg c42] at H
   have c42b0:(t4==0)=false:=beq_eq_false_iff_ne.mpr c42
   have c42b1:(t4 != 0)=true:=bne_iff_ne.mpr c42
   have hc42:=hid c42
   clear c42
   obtain rfl:=Option.some.inj H
   clear H
   have k75:=True.intro
   go_wp2_with (first
    |(go_at_call 6;clear k75;refine (JY.c k a0_0 a0_1 a0_2 a0_3 a0_4 a0_5 a0_6 a0_7 a0_8 a0_9 a0_10 a0_11 LN_a0_0.out t3 t4 _ (TBH.out.below HL.out TZH.out) (Nat.lt_of_lt_of_le TZH.out HL.out.size) A38.out).mono ?_;rintro e_ w76 ⟨rfl,hb_⟩;replace BKb1:=hid (BKb1.out.below hb_ BKb1.out.lt);replace HL:=hid (HL.out.trans (hb_.mono HL.out.size));clear hb_))
   (try simp only [Act.put,sI,sZ,sS])
   go_ret
   exact ⟨by first|rfl|(simp;done)|(simp [*];done),HL.out⟩
 |false=>
  rw [if_neg (show ¬ (false=true) by decide)] at H
  obtain rfl:=Option.some.inj H
  clear H
  go_enter Tryz.func3,Tryz.ntmps3
  have k78:=True.intro
  go_wp2_with (first
   |((with_reducible refine Qa (N:=3) rfl ?_);obtain ⟨gb1,hgb1⟩:∃ g_,w.heap.size=g_:=⟨_,rfl⟩;refine Jx (xv (Value.int .i8) a0_0 [Ii a0_1,Ii a0_2,Ii a0_3,Ii a0_4,Ii a0_5,Ii a0_6,.bool a0_7,.bool a0_8,.bool a0_9,Ii a0_10,Ii a0_11]) gb1 hgb1 rfl _ rfl rfl ?_;intro w77 hb_ hB_ hs_;have GEb1:Hid (w.heap.size≤gb1):=hid (by have:=HL.out.size;omega);replace HL:=hid (HL.out.trans (hb_.mono GEb1.out));have BKb1:=hid hB_;clear hb_ hB_ hs_ hgb1)
   |(go_at_call 5;clear k78;refine (JR.c k false _ A36.out).mono ?_;rintro e_ w79 ⟨rfl,hb_⟩;replace BKb1:=hid (BKb1.out.below hb_ BKb1.out.lt);replace HL:=hid (HL.out.trans (hb_.mono HL.out.size));clear hb_))
  (try simp only [Act.put,sI,sZ,sS])
  go_ret
  exact ⟨by first|rfl|(simp;done)|(simp [*];done),HL.out⟩
end Go.Proofs.YtaipghemddjecaaGreatDoor
