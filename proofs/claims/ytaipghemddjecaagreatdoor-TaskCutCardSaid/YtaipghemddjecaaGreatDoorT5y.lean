import Derived.Test.YtaipghemddjecaaGreatDoorTxy
import Derived.Test.YtaipghemddjecaaGreatDoorSqy
import Derived.Test.YtaipghemddjecaaGreatDoorF3wy
import Derived.WalkSmall
import Derived.Lib.ItoaLen
import Derived.Lib.AppendIntMem
import Derived.Test.YtaipghemddjecaaGreatDoorMiy
namespace Go.Proofs.YtaipghemddjecaaGreatDoor
set_option maxHeartbeats 40000000
set_option maxRecDepth 100000
open Go.RowKit
set_option linter.unusedVariables false
set_option linter.unusedSimpArgs false
def Zi(is:Bool)(o t:ByteArray):ByteArray:=if is then o++((opB++t)++nlB) else o
theorem Zn(is:Bool)(o t:ByteArray):(Zi is o t).size≤o.size+t.size+8:=by
  unfold Zi
  split
  · rw [ByteArray.size_append,ByteArray.size_append,ByteArray.size_append,show opB.size=7 from rfl,show nlB.size=1 from rfl];omega
  · omega
theorem Qfc:ScT Tryz.prog 4:=⟨fun w=>by kernel_rfl,fun w=>by kernel_rfl⟩
theorem XQ(is:Bool)(t o:ByteArray){g:Nat}{w:World}(hB:Blk w g 9 #[.string o])(h1:o.size≤100000)(h2:t.size≤100000):
    Calls Tryz.prog 12 #[.bool is,.string t,.pointer (some ⟨g,0,none⟩)] w fun e w'=>e=.returned (.tuple #[])∧Blk w' g 9 #[.string (Zi is o t)]∧Bex g w.heap.size w w':=by
  have BK:=hid hB
  clear hB
  have a1:opB.size+t.size≤9223372036854775807:=by rw [show opB.size=7 from rfl];omega
  have a2:(opB++t).size+nlB.size≤9223372036854775807:=by rw [ByteArray.size_append,show opB.size=7 from rfl,show nlB.size=1 from rfl];omega
  have a3:o.size+((opB++t)++nlB).size≤9223372036854775807:=by rw [ByteArray.size_append,ByteArray.size_append,show opB.size=7 from rfl,show nlB.size=1 from rfl];omega
  have A1:=hid a1
  have A2:=hid a2
  have A3:=hid a3
  clear a1 a2 a3 h1 h2
  cases is with
  |false=>
    go_enter Tryz.func12,Tryz.ntmps12
    go_wp2_with fail
    go_end0
    exact ⟨rfl,BK.out,Bex.refl _ _ _⟩
  |true=>
    go_enter Tryz.func12,Tryz.ntmps12
    go_wp2_with (first
     |((with_reducible refine Qa (N:=6) rfl ?_);refine Qb (.string o) (Qd Kx g 0 (.string o) #[.string o] BK.out rfl _ rfl rfl) rfl ?_)
     |((with_reducible refine Qa (N:=8) rfl ?_);refine Qb (.string (opB++t)) (Jy 9 opB t A1.out _ _ _ rfl rfl rfl) rfl ?_)
     |((with_reducible refine Qa (N:=9) rfl ?_);refine Qb (.string ((opB++t)++nlB)) (Jy 9 (opB++t) nlB A2.out _ _ _ rfl rfl rfl) rfl ?_)
     |((with_reducible refine Qa (N:=10) rfl ?_);refine Qb (.string (o++((opB++t)++nlB))) (Jy 9 o ((opB++t)++nlB) A3.out _ _ _ rfl rfl rfl) rfl ?_)
     |((with_reducible refine Qf (t:=9) (p:=2) rfl ?_);refine QH Kx g 0 (.string (o++((opB++t)++nlB))) #[.string o] #[.string (o++((opB++t)++nlB))] BK.out (Nat.zero_lt_one) rfl rfl rfl rfl _ _ rfl rfl rfl ?_;intro w1 ho_ hB_;have BK1:=hid hB_;have HO:=hid ho_;clear ho_ hB_))
    (try simp only [Act.put,sI,sZ,sS])
    (first|go_end0|refine bodyPost_ret (results_none rfl _ _ _) rfl ?_)
    exact ⟨rfl,BK1.out,(Bex.refl g _ w).off HO.out (.inl rfl)⟩
section
variable {P:Program} {ops:Array Oper} {rest:List Oper} {o:Oper} {a:Act} {Q:Exit→Act→World→Prop} {t t':TypeId} {w:World} {ev:Operand→Value} {g:FuncId}
theorem QaQ(z:Value)(hz:∀ w,(zeroValue t).run P w=.ok z w)(hc:z.cells=#[z])(g:Nat)(hg:w.heap.size=g)(hgd:Region.wanted o (yielded ops a.tmps)=true)(ho:o.op=.alloc t)
    (h:∀ w1,Below g w w1→Blk w1 g t #[z]→w1.heap.size=g+1→wpList P ops Q rest (a.put o.dst (.pointer (some ⟨g,0,none⟩))) w1):
    wpList P ops Q (o::rest) a w:=by
  subst hg
  refine JZ hgd fun K hK=>?_
  have:=h (w.alloc (.cells #[z] t)) ((Below.refl _ _).alloc (Nat.le_refl _) _) (Blk.new _ _ _) (by simp)
  unfold Oper.wp execOp
  simp only [ho,Instr.alloc,Sem.run_bind,hz,hc,Result.andThen_ok,newVar,newRow,run_newObj_alloc,Sem.run_pure]
  exact hK _ _ this
theorem qn{fn:Func}(hf:P.funcs[g]?=some fn)(hn:(fn.name=="runtime.NumGoroutine")=false)(hb:fn.body.isNone=false)(v:Value)(cs:Array Value)(hv:v=.func (.func g) #[] cs)(x:Operand)(xs:Array Operand)(ts:Array TypeId){vs:Array Value}
    (ho:o.op=.call { callee:=.value x,args:=xs,argTypes:=ts }) (hx:ev x=v) (hs:xs.map ev++cs=vs):(execOp ev o).run P w=.ok (.enter g vs) w:=by
  subst hv
  have h1:fn.name≠"runtime.NumGoroutine":=by simpa using hn
  unfold execOp
  simp [ho,hx,hs,go_sem]
  simp [callFunc,hf,h1]
  intro hc;rw [hc] at hb;cases hb
theorem QfS(f:Fn)(xs:Array Operand)(vs:Array Value)(ho:o.op=.makeFunc f #[] xs)(hs:xs.map ev=vs):(execOp ev o).run P w=.ok (.value (.func f #[] vs)) w:=by
  unfold execOp
  simp [ho,hs,go_sem]
theorem Qcz(n:Int)(t ty:TypeId)(x y:Operand)(b:Bool)(hb:decide (0<n)=b)(ho:o.op=.binOp .gtr t x y ty)(hx:ev x=.int .i64 n)(hy:ev y=.int .i64 0):(execOp ev o).run P w=.ok (.value (.bool b)) w:=by
  subst hb
  unfold execOp
  simp [ho,hx,hy,go_sem]
theorem QcA(n:Int)(t ty:TypeId)(x y:Operand)(b:Bool)(hb:decide (0≤n)=b)(ho:o.op=.binOp .geq t x y ty)(hx:ev x=.int .i64 n)(hy:ev y=.int .i64 0):(execOp ev o).run P w=.ok (.value (.bool b)) w:=by
  subst hb
  unfold execOp
  simp [ho,hx,hy,go_sem]
theorem QgH(n m:Int)(t ty:TypeId)(x y:Operand)(b:Bool)(hb:(n != m)=b)(ho:o.op=.binOp .neq t x y ty)(hx:ev x=.int .i64 n)(hy:ev y=.int .i64 m):(execOp ev o).run P w=.ok (.value (.bool b)) w:=by
  subst hb
  unfold execOp
  simp [ho,hx,hy,go_sem]
end
def Tb(w:World):Prop:=Lib.TabIs Tryz.prog w "internal/strconv.uint64pow10" .u64 Lib.pow10Tab
theorem xE:Tryz.prog.globalNamed "internal/strconv.uint64pow10"=some 0:=by kernel_rfl
theorem Tb.below{w w':World}{B:Nat}(h:Tb w)(hb:Below B w w')(hB:0<B):Tb w':=var?_below hb xE hB h
def Ku(n:Int):ByteArray:=⟨(Lib.itoa n).toArray⟩
theorem Vf(n:Int)(h0:-1000≤n)(h1:n≤1000):(Ku n).size≤21:=by
  have:=Lib.itoa_length_le n (by omega) (by omega)
  unfold Ku
  rw [ByteArray.size]
  simpa using this
theorem zi(n:Int)(h0:-1000≤n)(h1:n≤1000)(w:World)(ht:Tb w):Calls Tryz.prog 14 #[.int .i64 n] w fun e w'=>e=.returned (.string (Ku n))∧Below w.heap.size w w':=by
  refine (Tryz.strconv_Itoa n (by omega) (by omega) w ht).mono ?_
  rintro e w' ⟨rfl,k,os,rfl⟩
  exact ⟨rfl,Lib.below_grow _ w (Nat.le_refl _) k os⟩
set_option maxHeartbeats 40000000
set_option maxRecDepth 100000
open Go.RowKit
set_option linter.unusedVariables false
set_option linter.unusedSimpArgs false
def XD:ByteArray:=⟨#[98,101,103,105,110,10,102,111,114,115,121,116,104,32]⟩
def Vv:ByteArray:=⟨#[10,115,116,105,112,32]⟩
def va:ByteArray:=⟨#[116,114,121]⟩
def vb:ByteArray:=⟨#[115,101,116]⟩
def QaR:ByteArray:=⟨#[115,105,100,101,32]⟩
def QcB:ByteArray:=⟨#[119,104,105,116,101]⟩
def QcC:ByteArray:=⟨#[98,108,97,99,107]⟩
def xN:ByteArray:=⟨#[109,97,120,115,111,108,32]⟩
def xO:ByteArray:=⟨#[99,97,115,116,108,101,32]⟩
def epB:ByteArray:=⟨#[101,112,32]⟩
def xP:ByteArray:=⟨#[114,101,116,114,111,32]⟩
def Vg(n:Int):ByteArray:=if n=0 then QcB else QcC
def zS:Array Value:=#[.string QcB,.string QcC]
theorem Qee{n:Int}(h:n=0∨n=1)(w:World):(Instr.index 48 (.agg zS) (.int .i64 n)).run Tryz.prog w=.ok (.string (Vg n)) w:=by
  rcases h with rfl|rfl <;> kernel_rfl
theorem QaS{n:Int}(h:n=0∨n=1):QaR.size+(Vg n).size≤9223372036854775807:=by
  rcases h with rfl|rfl <;> decide
theorem Tb.off{w w':World}{g:Nat}(h:Tb w)(ho:Off g w w')(hg:0≠g):Tb w':=by
  unfold Tb Lib.TabIs World.var? at h ⊢
  rw [xE] at h ⊢
  simp only [Option.bind_some] at h ⊢
  rw [ho.block 0 hg];exact h
theorem Tb.bex{w w':World}{g B:Nat}(h:Tb w)(hx:Bex g B w w')(hB:0<B)(hg:0≠g):Tb w':=by
  unfold Tb Lib.TabIs World.var? at h ⊢
  rw [xE] at h ⊢
  simp only [Option.bind_some] at h ⊢
  rw [hx.block 0 hB hg];exact h
theorem jz(g:Nat)(w:World):(Instr.fieldAt 30 (.pointer (some ⟨g,0,none⟩)) 0).run Tryz.prog w=.ok (.pointer (some ⟨g,0,none⟩)) w:=by kernel_rfl
theorem Qfd(g:Nat)(w:World):(Instr.fieldAt 30 (.pointer (some ⟨g,0,none⟩)) 1).run Tryz.prog w=.ok (.pointer (some ⟨g,67,none⟩)) w:=by kernel_rfl
theorem QgI(g:Nat)(w:World):(Instr.fieldAt 30 (.pointer (some ⟨g,0,none⟩)) 2).run Tryz.prog w=.ok (.pointer (some ⟨g,71,none⟩)) w:=by kernel_rfl
theorem QgJ(g:Nat)(w:World):(Instr.fieldAt 30 (.pointer (some ⟨g,0,none⟩)) 3).run Tryz.prog w=.ok (.pointer (some ⟨g,72,none⟩)) w:=by kernel_rfl
theorem Qfe(g:Nat)(w:World):(Instr.fieldAt 30 (.pointer (some ⟨g,0,none⟩)) 4).run Tryz.prog w=.ok (.pointer (some ⟨g,73,none⟩)) w:=by kernel_rfl
theorem Qff(g:Nat)(w:World):(Instr.fieldAt 30 (.pointer (some ⟨g,0,none⟩)) 5).run Tryz.prog w=.ok (.pointer (some ⟨g,74,none⟩)) w:=by kernel_rfl
theorem QgK(g:Nat)(w:World):(Instr.fieldAt 26 (.pointer (some ⟨g,0,none⟩)) 0).run Tryz.prog w=.ok (.pointer (some ⟨g,0,none⟩)) w:=by kernel_rfl
theorem Qfg(g:Nat)(w:World):(Instr.fieldAt 26 (.pointer (some ⟨g,0,none⟩)) 1).run Tryz.prog w=.ok (.pointer (some ⟨g,64,none⟩)) w:=by kernel_rfl
theorem Qfh(g:Nat)(w:World):(Instr.fieldAt 26 (.pointer (some ⟨g,0,none⟩)) 2).run Tryz.prog w=.ok (.pointer (some ⟨g,65,none⟩)) w:=by kernel_rfl
theorem Qfi(g:Nat)(w:World):(Instr.fieldAt 26 (.pointer (some ⟨g,0,none⟩)) 3).run Tryz.prog w=.ok (.pointer (some ⟨g,66,none⟩)) w:=by kernel_rfl
def KH(fb sb:ByteArray):ByteArray:=(((XD++fb)++Vv)++sb)++nlB
def vc(s:TS)(fb sb cs:ByteArray):ByteArray:=
  Zi (decide (0≤s.rt)) (Zi (decide (0≤s.ep)) (Zi (decide (0<s.ca)) (Zi (decide (0<s.mx)) (Zi (s.tu != XR s.ki s.go s.n s.hf) (Zi s.se (Zi s.tr (KH fb sb) va) vb) (QaR++Vg s.tu)) (xN++Ku s.mx)) (xO++cs)) (epB++Kb s.ep)) (xP++Ku s.rt)++Vr
theorem qF(n:Int):(Kb n).size≤2:=by
  unfold Kb
  split
  · exact Nat.le_refl 2
  · exact (by decide:1≤2)
theorem QcD(k:Nat)(s:TS){w:World}(hl:s.b.length=64)(hr:JO.f k s.b s.tu s.ca s.ep s.ki s.go s.n s.hf s.tr s.se s.mx s.rt=some false)(ht:Tb w)(hz:0<w.heap.size):
    Calls Tryz.prog 6 #[.agg (KC s)] w fun e w'=>e=.returned (.tuple #[.string (⟨#[]⟩:ByteArray),.int .i64 5])∧Below w.heap.size w w':=by
 have LN:=hid hl
 have HR:=hid hr
 have TB:=hid ht
 have TZ:=hid hz
 have HL:=hid (Below.refl w.heap.size w)
 clear hl hr ht hz
 have k1:=True.intro
 go_enter Tryz.func6,Tryz.ntmps6
 go_wp2_with (first
  |((with_reducible refine Qa (N:=1) rfl ?_);obtain ⟨gk,hgk⟩:∃ g_,w.heap.size=g_:=⟨_,rfl⟩;refine Jx (KC s) gk hgk rfl _ rfl rfl ?_;intro w1 hb_ hB_ hs_;have GK:=hid (show w.heap.size≤gk from Nat.le_of_eq hgk);have HL1:=hid (HL.out.trans (hb_.mono GK.out));have BK1:=hid hB_;have TB1:=hid (TB.out.below (hb_.mono GK.out) TZ.out);clear hb_ hB_ hs_ hgk)
  |((with_reducible refine Qa (N:=10) rfl ?_);refine Qb (.agg (KC s)) (QI Vh gk 0 (KC s) (KC s) BK1.out (XX LN.out 75 rfl) (QbI LN.out 75 rfl) _ rfl rfl) rfl ?_)
  |(go_at_call 9;clear k1;refine (JO.c k s.b s.tu s.ca s.ep s.ki s.go s.n s.hf s.tr s.se s.mx s.rt LN.out false _ HR.out).mono ?_;rintro e_ w2 ⟨rfl,hb_⟩;have BK2:=hid (BK1.out.below hb_ BK1.out.lt);have HL2:=hid (HL1.out.trans (hb_.mono HL1.out.size));have TB2:=hid (TB1.out.below hb_ (Nat.lt_of_le_of_lt (Nat.zero_le _) BK1.out.lt));clear hb_))
 (try simp only [Act.put,sI,sZ,sS])
 go_ret2
 exact ⟨by first|rfl|(simp;done),HL2.out⟩
theorem QaT(k:Nat)(s:TS){w:World}(hl:s.b.length=64)(hr:JO.f k s.b s.tu s.ca s.ep s.ki s.go s.n s.hf s.tr s.se s.mx s.rt=some true)(fb sb cs:ByteArray)(fe:Int)(si:Bool)
    (hf:Qy.f k s.b=some (fb,fe)) (hs:Jw.f s.ki s.go s.n s.hf=some (sb,si)) (hc:Ji.f k s.ca=some cs) (f0:fb.size≤1000) (f1:sb.size≤1000) (f2:cs.size≤1000) (tu:s.tu=0∨s.tu=1) (m0:-1000≤s.mx) (m1:s.mx≤1000) (r0:-1000≤s.rt) (r1:s.rt≤1000) (ht:Tb w) (hz:0<w.heap.size):
    Calls Tryz.prog 6 #[.agg (KC s)] w fun e w'=>e=.returned (.tuple #[.string (vc s fb sb cs),.int .i64 0])∧Below w.heap.size w w':=by
 have LN:=hid hl;have HR:=hid hr;have TB:=hid ht;have TZ:=hid hz;have HF:=hid hf;have HS:=hid hs;have HC:=hid hc
 have TU:=hid tu;have M0:=hid m0;have M1:=hid m1;have R0:=hid r0;have R1:=hid r1
 have HL:=hid (Below.refl w.heap.size w)
 have C1:=hid (show XD.size+fb.size≤9223372036854775807 by rw [show XD.size=14 from rfl];omega)
 have C2:=hid (show (XD++fb).size+Vv.size≤9223372036854775807 by rw [ByteArray.size_append,show XD.size=14 from rfl,show Vv.size=6 from rfl];omega)
 have C3:=hid (show ((XD++fb)++Vv).size+sb.size≤9223372036854775807 by rw [ByteArray.size_append,ByteArray.size_append,show XD.size=14 from rfl,show Vv.size=6 from rfl];omega)
 have C4:=hid (show (((XD++fb)++Vv)++sb).size+nlB.size≤9223372036854775807 by rw [ByteArray.size_append,ByteArray.size_append,ByteArray.size_append,show XD.size=14 from rfl,show Vv.size=6 from rfl,show nlB.size=1 from rfl];omega)
 have W4:=hid (show xN.size+(Ku s.mx).size≤9223372036854775807 by have:=Vf s.mx m0 m1;rw [show xN.size=7 from rfl];omega)
 have W5:=hid (show xO.size+cs.size≤9223372036854775807 by rw [show xO.size=7 from rfl];omega)
 have W6:=hid (show epB.size+(Kb s.ep).size≤9223372036854775807 by have:=qF s.ep;rw [show epB.size=3 from rfl];omega)
 have W7:=hid (show xP.size+(Ku s.rt).size≤9223372036854775807 by have:=Vf s.rt r0 r1;rw [show xP.size=6 from rfl];omega)
 have x3:(QaR++Vg s.tu).size≤2000:=by rcases tu with h|h <;> rw [h] <;> decide
 have x4:(xN++Ku s.mx).size≤2000:=by have:=Vf s.mx m0 m1;rw [ByteArray.size_append,show xN.size=7 from rfl];omega
 have x5:(xO++cs).size≤2000:=by rw [ByteArray.size_append,show xO.size=7 from rfl];omega
 have x6:(epB++Kb s.ep).size≤2000:=by have:=qF s.ep;rw [ByteArray.size_append,show epB.size=3 from rfl];omega
 have x7:(xP++Ku s.rt).size≤2000:=by have:=Vf s.rt r0 r1;rw [ByteArray.size_append,show xP.size=6 from rfl];omega
 have x0:(KH fb sb).size≤3000:=by unfold KH;rw [ByteArray.size_append,ByteArray.size_append,ByteArray.size_append,ByteArray.size_append,show XD.size=14 from rfl,show Vv.size=6 from rfl,show nlB.size=1 from rfl];omega
 obtain ⟨u3,U3⟩:∃ u,Hid (QaR++Vg s.tu=u):=⟨_,hid rfl⟩
 obtain ⟨u4,U4⟩:∃ u,Hid (xN++Ku s.mx=u):=⟨_,hid rfl⟩
 obtain ⟨u5,U5⟩:∃ u,Hid (xO++cs=u):=⟨_,hid rfl⟩
 obtain ⟨u6,U6⟩:∃ u,Hid (epB++Kb s.ep=u):=⟨_,hid rfl⟩
 obtain ⟨u7,U7⟩:∃ u,Hid (xP++Ku s.rt=u):=⟨_,hid rfl⟩
 obtain ⟨b1,B1⟩:∃ b,Hid (s.tr=b):=⟨_,hid rfl⟩
 obtain ⟨b2,B2⟩:∃ b,Hid (s.se=b):=⟨_,hid rfl⟩
 obtain ⟨b3,B3⟩:∃ b,Hid ((s.tu != XR s.ki s.go s.n s.hf)=b):=⟨_,hid rfl⟩
 obtain ⟨b4,B4⟩:∃ b,Hid (decide (0<s.mx)=b):=⟨_,hid rfl⟩
 obtain ⟨b5,B5⟩:∃ b,Hid (decide (0<s.ca)=b):=⟨_,hid rfl⟩
 obtain ⟨b6,B6⟩:∃ b,Hid (decide (0≤s.ep)=b):=⟨_,hid rfl⟩
 obtain ⟨b7,B7⟩:∃ b,Hid (decide (0≤s.rt)=b):=⟨_,hid rfl⟩
 obtain ⟨o0,O0⟩:∃ o,Hid (KH fb sb=o):=⟨_,hid rfl⟩
 obtain ⟨o1,O1⟩:∃ o,Hid (Zi b1 o0 va=o):=⟨_,hid rfl⟩
 obtain ⟨o2,O2⟩:∃ o,Hid (Zi b2 o1 vb=o):=⟨_,hid rfl⟩
 obtain ⟨o3,O3⟩:∃ o,Hid (Zi b3 o2 u3=o):=⟨_,hid rfl⟩
 obtain ⟨o4,O4⟩:∃ o,Hid (Zi b4 o3 u4=o):=⟨_,hid rfl⟩
 obtain ⟨o5,O5⟩:∃ o,Hid (Zi b5 o4 u5=o):=⟨_,hid rfl⟩
 obtain ⟨o6,O6⟩:∃ o,Hid (Zi b6 o5 u6=o):=⟨_,hid rfl⟩
 obtain ⟨o7,O7⟩:∃ o,Hid (Zi b7 o6 u7=o):=⟨_,hid rfl⟩
 have OZ:=hid (show vc s fb sb cs=o7++Vr by unfold vc;rw [B1.out,B2.out,B3.out,B4.out,B5.out,B6.out,B7.out,U3.out,U4.out,U5.out,U6.out,U7.out,O0.out,O1.out,O2.out,O3.out,O4.out,O5.out,O6.out,O7.out])
 have V1:=hid (show va.size≤100000 by decide)
 have V2:=hid (show vb.size≤100000 by decide)
 have V3:=hid (show u3.size≤100000 by rw [← U3.out];omega)
 have V4:=hid (show u4.size≤100000 by rw [← U4.out];omega)
 have V5:=hid (show u5.size≤100000 by rw [← U5.out];omega)
 have V6:=hid (show u6.size≤100000 by rw [← U6.out];omega)
 have V7:=hid (show u7.size≤100000 by rw [← U7.out];omega)
 have z0:o0.size≤3000:=by rw [← O0.out];exact x0
 have Z0:=hid (show o0.size≤100000 by omega)
 have v1:va.size≤2000:=by decide
 have z1:o1.size≤5100:=by have h_:=Zn b1 o0 va;rw [O1.out] at h_;omega
 have Z1:=hid (show o1.size≤100000 by omega)
 have v2:vb.size≤2000:=by decide
 have z2:o2.size≤7200:=by have h_:=Zn b2 o1 vb;rw [O2.out] at h_;omega
 have Z2:=hid (show o2.size≤100000 by omega)
 have v3:u3.size≤2000:=by rw [← U3.out];omega
 have z3:o3.size≤9300:=by have h_:=Zn b3 o2 u3;rw [O3.out] at h_;omega
 have Z3:=hid (show o3.size≤100000 by omega)
 have v4:u4.size≤2000:=by rw [← U4.out];omega
 have z4:o4.size≤11400:=by have h_:=Zn b4 o3 u4;rw [O4.out] at h_;omega
 have Z4:=hid (show o4.size≤100000 by omega)
 have v5:u5.size≤2000:=by rw [← U5.out];omega
 have z5:o5.size≤13500:=by have h_:=Zn b5 o4 u5;rw [O5.out] at h_;omega
 have Z5:=hid (show o5.size≤100000 by omega)
 have v6:u6.size≤2000:=by rw [← U6.out];omega
 have z6:o6.size≤15600:=by have h_:=Zn b6 o5 u6;rw [O6.out] at h_;omega
 have Z6:=hid (show o6.size≤100000 by omega)
 have v7:u7.size≤2000:=by rw [← U7.out];omega
 have z7:o7.size≤17700:=by have h_:=Zn b7 o6 u7;rw [O7.out] at h_;omega
 have Z7:=hid (show o7.size≤100000 by omega)
 have C5:=hid (show o7.size+Vr.size≤9223372036854775807 by rw [show Vr.size=4 from rfl];omega)
 clear hl hr ht hz hf hs hc f0 f1 f2 tu m0 m1 r0 r1 x0 x3 x4 x5 x6 x7 z0 z1 z2 z3 z4 z5 z6 z7 v1 v2 v3 v4 v5 v6 v7
 have k1:=True.intro
 have k2:=True.intro
 have k3:=True.intro
 have k4:=True.intro
 have k5:=True.intro
 go_enter Tryz.func6,Tryz.ntmps6
 go_wp2_with (first
  |((with_reducible refine Qa (N:=1) rfl ?_);obtain ⟨gk,hgk⟩:∃ g_,w.heap.size=g_:=⟨_,rfl⟩;refine Jx (KC s) gk hgk rfl _ rfl rfl ?_;intro w1 hb_ hB_ hs_;have GK:=hid (show w.heap.size≤gk from Nat.le_of_eq hgk);have HL1:=hid (HL.out.trans (hb_.mono GK.out));have BK1:=hid hB_;have TB1:=hid (TB.out.below (hb_.mono GK.out) TZ.out);clear hb_ hB_ hs_ hgk)
  |((with_reducible refine Qa (N:=10) rfl ?_);refine Qb (.agg (KC s)) (QI Vh gk 0 (KC s) (KC s) BK1.out (XX LN.out 75 rfl) (QbI LN.out 75 rfl) _ rfl rfl) rfl ?_)
  |(go_at_call 9;clear k1;refine (JO.c k s.b s.tu s.ca s.ep s.ki s.go s.n s.hf s.tr s.se s.mx s.rt LN.out true _ HR.out).mono ?_;rintro e_ w2 ⟨rfl,hb_⟩;have BK2:=hid (BK1.out.below hb_ BK1.out.lt);have HL2:=hid (HL1.out.trans (hb_.mono HL1.out.size));have TB2:=hid (TB1.out.below hb_ (Nat.lt_of_le_of_lt (Nat.zero_le _) BK1.out.lt));clear hb_)
  |((with_reducible refine Qa (N:=14) rfl ?_);refine Qb (.pointer (some ⟨gk,0,none⟩)) (Qc 30 0 (.pointer (some ⟨gk,0,none⟩)) (.pointer (some ⟨gk,0,none⟩)) (jz gk) _ rfl rfl) rfl ?_)
  |((with_reducible refine Qa (N:=15) rfl ?_);refine Qb (.pointer (some ⟨gk,0,none⟩)) (Qc 26 0 (.pointer (some ⟨gk,0,none⟩)) (.pointer (some ⟨gk,0,none⟩)) (QgK gk) _ rfl rfl) rfl ?_)
  |((with_reducible refine Qa (N:=16) rfl ?_);refine Qb (.agg (bv s.b)) (QI Jc gk 0 (KC s) (bv s.b) BK2.out (zz LN.out) (zA LN.out) _ rfl rfl) rfl ?_)
  |(go_at_call 10;clear k2;refine (Qy.c k s.b LN.out fb fe _ HF.out).mono ?_;rintro e_ w3 ⟨rfl,hb_⟩;have BK3:=hid (BK2.out.below hb_ BK2.out.lt);have HL3:=hid (HL2.out.trans (hb_.mono HL2.out.size));have TB3:=hid (TB2.out.below hb_ (Nat.lt_of_le_of_lt (Nat.zero_le _) BK2.out.lt));clear hb_)
  |((with_reducible refine Qa (N:=21) rfl ?_);refine Qb (.pointer (some ⟨gk,67,none⟩)) (Qc 30 1 (.pointer (some ⟨gk,0,none⟩)) (.pointer (some ⟨gk,67,none⟩)) (Qfd gk) _ rfl rfl) rfl ?_)
  |((with_reducible refine Qa (N:=22) rfl ?_);refine Qb (.agg #[.int .i64 s.ki,.int .i64 s.go,.int .i64 s.n,.bool s.hf]) (QI QcE gk 67 (KC s) #[.int .i64 s.ki,.int .i64 s.go,.int .i64 s.n,.bool s.hf] BK3.out (qD (n:=64) (c:=11) LN.out rfl (m:=71) (by decide)) ((qE (n:=64) LN.out 3 67 4 (by decide)).trans rfl) _ rfl rfl) rfl ?_)
  |(go_at_call 11;clear k3;refine (Jw.c s.ki s.go s.n s.hf sb si _ HS.out).mono ?_;rintro e_ w4 ⟨rfl,hb_⟩;have BK4:=hid (BK3.out.below hb_ BK3.out.lt);have HL4:=hid (HL3.out.trans (hb_.mono HL3.out.size));have TB4:=hid (TB3.out.below hb_ (Nat.lt_of_le_of_lt (Nat.zero_le _) BK3.out.lt));clear hb_)
  |((with_reducible refine Qa (N:=27) rfl ?_);refine Qb (.string (XD++fb)) (Jy 9 XD fb C1.out _ _ _ rfl rfl rfl) rfl ?_)
  |((with_reducible refine Qa (N:=28) rfl ?_);refine Qb (.string ((XD++fb)++Vv)) (Jy 9 (XD++fb) Vv C2.out _ _ _ rfl rfl rfl) rfl ?_)
  |((with_reducible refine Qa (N:=30) rfl ?_);refine Qb (.string (((XD++fb)++Vv)++sb)) (Jy 9 ((XD++fb)++Vv) sb C3.out _ _ _ rfl rfl rfl) rfl ?_)
  |((with_reducible refine Qa (N:=31) rfl ?_);refine Qb (.string ((((XD++fb)++Vv)++sb)++nlB)) (Jy 9 (((XD++fb)++Vv)++sb) nlB C4.out _ _ _ rfl rfl rfl) rfl ?_)
  |((with_reducible refine Qa (N:=8) rfl ?_);obtain ⟨go,hgo⟩:∃ g_,w4.heap.size=g_:=⟨_,rfl⟩;refine QaQ (.string (⟨#[]⟩:ByteArray)) (fun ww_=>by kernel_rfl) rfl go hgo rfl rfl ?_;intro w5 hb_ hB_ hs_;have NE:=hid (show gk≠go from by have:=BK4.out.lt;omega);have GE:=hid (show w.heap.size≤go from by have:=HL4.out.size;omega);have NZ:=hid (show 0≠go from by have:=BK4.out.lt;omega);have LE_:=hid (show w4.heap.size≤go from Nat.le_of_eq hgo);have BK5:=hid (BK4.out.below (hb_.mono LE_.out) BK4.out.lt);have HL5:=hid (HL4.out.trans (hb_.mono GE.out));have TB5:=hid (TB4.out.below (hb_.mono LE_.out) (Nat.lt_of_le_of_lt (Nat.zero_le _) BK4.out.lt));have BG5:=hid hB_;clear hb_ hB_ hs_ hgo)
  |((with_reducible refine Qf (t:=9) (p:=8) rfl ?_);refine QH Kx go 0 (.string ((((XD++fb)++Vv)++sb)++nlB)) #[.string (⟨#[]⟩:ByteArray)] #[.string ((((XD++fb)++Vv)++sb)++nlB)] BG5.out (Nat.zero_lt_one) rfl rfl rfl rfl _ _ rfl rfl rfl ?_;intro w6 ho_ hB1_;have hB_:Blk w6 go 9 #[.string o0]:=(by rw [← O0.out];exact hB1_);clear hB1_;have BK6:=hid (BK5.out.off ho_ NE.out);have HL6:=hid (ho_.below HL5.out GE.out);have TB6:=hid (TB5.out.off ho_ NZ.out);have BG6:=hid hB_;clear ho_ hB_)
  |((with_reducible refine Qa (N:=32) rfl ?_);refine Qb (.func (.func 12) #[] #[.pointer (some ⟨go,0,none⟩)]) (QfS (.func 12) _ #[.pointer (some ⟨go,0,none⟩)] rfl rfl) rfl ?_)
  |((with_reducible refine Qa (N:=34) rfl ?_);refine Qb (.pointer (some ⟨gk,71,none⟩)) (Qc 30 2 (.pointer (some ⟨gk,0,none⟩)) (.pointer (some ⟨gk,71,none⟩)) (QgI gk) _ rfl rfl) rfl ?_)
  |((with_reducible refine Qa (N:=35) rfl ?_);refine Qb (.bool b1) (Qd Qfc gk 71 (.bool b1) (KC s) BK6.out ((Qi (n:=64) LN.out 7 71 (by omega)).trans (show _=some (Value.bool b1) from by rw [← B1.out];rfl)) _ rfl rfl) rfl ?_)
  |(go_at_call 12;clear k4;refine (XQ b1 va o0 BG6.out Z0.out V1.out).mono ?_;rintro e_ w7 ⟨rfl,hB_,hx_⟩;rw [O1.out] at hB_;have BK7:=hid (BK6.out.bex hx_ BK6.out.lt NE.out);have BG7:=hid hB_;have HL7:=hid (Jm HL6.out hx_ HL6.out.size GE.out);have TB7:=hid (TB6.out.bex hx_ (Nat.lt_of_le_of_lt (Nat.zero_le _) BK6.out.lt) NZ.out);clear hB_ hx_)
  |((with_reducible refine Qa (N:=38) rfl ?_);refine Qb (.pointer (some ⟨gk,72,none⟩)) (Qc 30 3 (.pointer (some ⟨gk,0,none⟩)) (.pointer (some ⟨gk,72,none⟩)) (QgJ gk) _ rfl rfl) rfl ?_)
  |((with_reducible refine Qa (N:=39) rfl ?_);refine Qb (.bool b2) (Qd Qfc gk 72 (.bool b2) (KC s) BK7.out ((Qi (n:=64) LN.out 8 72 (by omega)).trans (show _=some (Value.bool b2) from by rw [← B2.out];rfl)) _ rfl rfl) rfl ?_)
  |(go_at_call 12;clear k5;refine (XQ b2 vb o1 BG7.out Z1.out V2.out).mono ?_;rintro e_ w8 ⟨rfl,hB_,hx_⟩;rw [O2.out] at hB_;have BK8:=hid (BK7.out.bex hx_ BK7.out.lt NE.out);have BG8:=hid hB_;have HL8:=hid (Jm HL7.out hx_ HL7.out.size GE.out);have TB8:=hid (TB7.out.bex hx_ (Nat.lt_of_le_of_lt (Nat.zero_le _) BK7.out.lt) NZ.out);clear hB_ hx_))
 (try simp only [Act.put,sI,sZ,sS])
 refine QL (fun z_=>Blk z_ gk 30 (KC s)) [] [(0,2),(1,2),(2,2),(3,1),(4,2),(5,1),(8,2),(9,2),(10,2),(11,1),(12,2),(13,2),(6,0),(7,2),(14,0)] (by kernel_rfl) (by kernel_rfl) (by kernel_rfl) rfl ?_
 intro w9 hb_
 have BK9:=hid (BK8.out.below hb_ BK8.out.lt)
 have BG9:=hid (BG8.out.below hb_ BG8.out.lt)
 have HL9:=hid (HL8.out.trans (hb_.mono HL8.out.size))
 have TB9:=hid (TB8.out.below hb_ (Nat.lt_of_le_of_lt (Nat.zero_le _) BK8.out.lt))
 clear hb_
 refine Qe (.func (.func 12) #[] #[.pointer (some ⟨go,0,none⟩)]) rfl (fun z_=>Qo (.tmp 9) (.inl rfl) _ rfl) rfl rfl ?_
 intro t_ k_;simp only [sI,sZ,sS] at k_;subst k_
 refine Qe (.pointer (some ⟨gk,0,none⟩)) rfl (fun z_=>Qc 30 0 (.pointer (some ⟨gk,0,none⟩)) (.pointer (some ⟨gk,0,none⟩)) (jz gk) _ rfl rfl) rfl rfl ?_
 intro t_ k_;simp only [sI,sZ,sS] at k_;subst k_
 refine Qe (.pointer (some ⟨gk,64,none⟩)) rfl (fun z_=>Qc 26 1 (.pointer (some ⟨gk,0,none⟩)) (.pointer (some ⟨gk,64,none⟩)) (Qfg gk) _ rfl rfl) rfl rfl ?_
 intro t_ k_;simp only [sI,sZ,sS] at k_;subst k_
 refine QA (.int .i64 s.tu) BK9.out rfl (fun z_ hS_=>Qd XF gk 64 (.int .i64 s.tu) (KC s) hS_ ((Qi (n:=64) LN.out 0 64 (by omega)).trans rfl) _ rfl rfl) rfl rfl ?_
 intro t_ k_;simp only [sI,sZ,sS] at k_;subst k_
 refine Qe (.pointer (some ⟨gk,67,none⟩)) rfl (fun z_=>Qc 30 1 (.pointer (some ⟨gk,0,none⟩)) (.pointer (some ⟨gk,67,none⟩)) (Qfd gk) _ rfl rfl) rfl rfl ?_
 intro t_ k_;simp only [sI,sZ,sS] at k_;subst k_
 refine QA (.agg #[.int .i64 s.ki,.int .i64 s.go,.int .i64 s.n,.bool s.hf]) BK9.out rfl (fun z_ hS_=>QI QcE gk 67 (KC s) #[.int .i64 s.ki,.int .i64 s.go,.int .i64 s.n,.bool s.hf] hS_ (qD (n:=64) (c:=11) LN.out rfl (m:=71) (by decide)) ((qE (n:=64) LN.out 3 67 4 (by decide)).trans rfl) _ rfl rfl) rfl rfl ?_
 intro t_ k_;simp only [sI,sZ,sS] at k_;subst k_
 refine Qe (.agg zS) rfl (fun z_=>Xs (.agg zS) _ rfl (by intro ww_;kernel_rfl)) rfl rfl ?_
 intro t_ k_;simp only [sI,sZ,sS] at k_;subst k_
 refine Qe (.pointer (some ⟨gk,0,none⟩)) rfl (fun z_=>Qc 30 0 (.pointer (some ⟨gk,0,none⟩)) (.pointer (some ⟨gk,0,none⟩)) (jz gk) _ rfl rfl) rfl rfl ?_
 intro t_ k_;simp only [sI,sZ,sS] at k_;subst k_
 refine Qe (.pointer (some ⟨gk,64,none⟩)) rfl (fun z_=>Qc 26 1 (.pointer (some ⟨gk,0,none⟩)) (.pointer (some ⟨gk,64,none⟩)) (Qfg gk) _ rfl rfl) rfl rfl ?_
 intro t_ k_;simp only [sI,sZ,sS] at k_;subst k_
 refine QA (.int .i64 s.tu) BK9.out rfl (fun z_ hS_=>Qd XF gk 64 (.int .i64 s.tu) (KC s) hS_ ((Qi (n:=64) LN.out 0 64 (by omega)).trans rfl) _ rfl rfl) rfl rfl ?_
 intro t_ k_;simp only [sI,sZ,sS] at k_;subst k_
 refine Qe (.string (Vg s.tu)) rfl (fun z_=>XW _ (.agg zS) (.int .i64 s.tu) (.string (Vg s.tu)) (Qee TU.out) _ _ rfl rfl rfl) rfl rfl ?_
 intro t_ k_;simp only [sI,sZ,sS] at k_;subst k_
 refine Qe (.string u3) rfl (fun z_=>(by rw [← U3.out];exact Jy 9 QaR (Vg s.tu) (QaS TU.out) _ _ _ rfl rfl rfl)) rfl rfl ?_
 intro t_ k_;simp only [sI,sZ,sS] at k_;subst k_
 refine QV rfl (fun Q'_ hQ_=>?_)
 refine Jr 13 #[.agg #[.int .i64 s.ki,.int .i64 s.go,.int .i64 s.n,.bool s.hf]] (by go_simp) rfl ((Zw.c s.ki s.go s.n s.hf (XR s.ki s.go s.n s.hf) _ (xQ _ _ _ _)).mono ?_)
 rintro e_ w10 ⟨rfl,hb_⟩
 have BK10:=hid (BK9.out.below hb_ BK9.out.lt)
 have BG10:=hid (BG9.out.below hb_ BG9.out.lt)
 have HL10:=hid (HL9.out.trans (hb_.mono HL9.out.size))
 have TB10:=hid (TB9.out.below hb_ (Nat.lt_of_le_of_lt (Nat.zero_le _) BK9.out.lt))
 clear hb_
 refine ⟨_,rfl,?_⟩
 refine hQ_ _ _ (fun _=>BK10.out) ?_
 clear hQ_ Q'_
 change Sq _ _ _ _ _ _ (Act.put _ (some 47) _) _
 simp only [Act.put,sI,sZ,sS]
 refine Qe (.bool b3) rfl (fun z_=>QgH s.tu (XR s.ki s.go s.n s.hf) _ _ _ _ b3 B3.out rfl rfl rfl) rfl rfl ?_
 intro t_ k_;simp only [sI,sZ,sS] at k_;subst k_
 refine QV rfl (fun Q'_ hQ_=>?_)
 refine Jr 12 #[.bool b3,.string u3,.pointer (some ⟨go,0,none⟩)] (qn Tryz.func12 (by kernel_rfl) (by kernel_rfl) (.func (.func 12) #[] #[.pointer (some ⟨go,0,none⟩)]) #[.pointer (some ⟨go,0,none⟩)] rfl _ _ _ rfl rfl (by simp only [List.map_toArray,List.map_cons,List.map_nil];rfl)) rfl ((XQ b3 u3 o2 BG10.out Z2.out V3.out).mono ?_)
 rintro e_ w11 ⟨rfl,hB_,hx_⟩
 rw [O3.out] at hB_
 have BK11:=hid (BK10.out.bex hx_ BK10.out.lt NE.out)
 have BG11:=hid hB_
 have HL11:=hid (Jm HL10.out hx_ HL10.out.size GE.out)
 have TB11:=hid (TB10.out.bex hx_ (Nat.lt_of_le_of_lt (Nat.zero_le _) BK10.out.lt) NZ.out)
 clear hB_ hx_
 refine ⟨_,rfl,?_⟩
 refine hQ_ _ _ (fun _=>BK11.out) ?_
 clear hQ_ Q'_
 change Sq _ _ _ _ _ _ (Act.put _ (some 55) _) _
 simp only [Act.put,sI,sZ,sS]
 refine JH ?_
 go_wp2_with fail
 (try simp only [Act.put,sI,sZ,sS])
 refine QL (fun z_=>Blk z_ gk 30 (KC s)) [] [(0,2),(1,2),(2,1),(3,2),(4,2),(5,1),(6,0),(7,2),(8,0)] (by kernel_rfl) (by kernel_rfl) (by kernel_rfl) rfl ?_
 intro w12 hb_
 have BK12:=hid (BK11.out.below hb_ BK11.out.lt)
 have BG12:=hid (BG11.out.below hb_ BG11.out.lt)
 have HL12:=hid (HL11.out.trans (hb_.mono HL11.out.size))
 have TB12:=hid (TB11.out.below hb_ (Nat.lt_of_le_of_lt (Nat.zero_le _) BK11.out.lt))
 clear hb_
 refine Qe (.func (.func 12) #[] #[.pointer (some ⟨go,0,none⟩)]) rfl (fun z_=>Qo (.tmp 9) (.inl rfl) _ rfl) rfl rfl ?_
 intro t_ k_;simp only [sI,sZ,sS] at k_;subst k_
 refine Qe (.pointer (some ⟨gk,73,none⟩)) rfl (fun z_=>Qc 30 4 (.pointer (some ⟨gk,0,none⟩)) (.pointer (some ⟨gk,73,none⟩)) (Qfe gk) _ rfl rfl) rfl rfl ?_
 intro t_ k_;simp only [sI,sZ,sS] at k_;subst k_
 refine QA (.int .i64 s.mx) BK12.out rfl (fun z_ hS_=>Qd XF gk 73 (.int .i64 s.mx) (KC s) hS_ ((Qi (n:=64) LN.out 9 73 (by omega)).trans rfl) _ rfl rfl) rfl rfl ?_
 intro t_ k_;simp only [sI,sZ,sS] at k_;subst k_
 refine Qe (.bool b4) rfl (fun z_=>Qcz s.mx _ _ _ _ b4 B4.out rfl rfl rfl) rfl rfl ?_
 intro t_ k_;simp only [sI,sZ,sS] at k_;subst k_
 refine Qe (.pointer (some ⟨gk,73,none⟩)) rfl (fun z_=>Qc 30 4 (.pointer (some ⟨gk,0,none⟩)) (.pointer (some ⟨gk,73,none⟩)) (Qfe gk) _ rfl rfl) rfl rfl ?_
 intro t_ k_;simp only [sI,sZ,sS] at k_;subst k_
 refine QA (.int .i64 s.mx) BK12.out rfl (fun z_ hS_=>Qd XF gk 73 (.int .i64 s.mx) (KC s) hS_ ((Qi (n:=64) LN.out 9 73 (by omega)).trans rfl) _ rfl rfl) rfl rfl ?_
 intro t_ k_;simp only [sI,sZ,sS] at k_;subst k_
 refine QV rfl (fun Q'_ hQ_=>?_)
 refine Jr 14 #[.int .i64 s.mx] (by go_simp) rfl ((zi s.mx M0.out M1.out _ TB12.out).mono ?_)
 rintro e_ w13 ⟨rfl,hb_⟩
 have BK13:=hid (BK12.out.below hb_ BK12.out.lt)
 have BG13:=hid (BG12.out.below hb_ BG12.out.lt)
 have HL13:=hid (HL12.out.trans (hb_.mono HL12.out.size))
 have TB13:=hid (TB12.out.below hb_ (Nat.lt_of_le_of_lt (Nat.zero_le _) BK12.out.lt))
 clear hb_
 refine ⟨_,rfl,?_⟩
 refine hQ_ _ _ (fun _=>BK13.out) ?_
 clear hQ_ Q'_
 change Sq _ _ _ _ _ _ (Act.put _ (some 62) _) _
 simp only [Act.put,sI,sZ,sS]
 refine Qe (.string u4) rfl (fun z_=>(by rw [← U4.out];exact Jy 9 xN (Ku s.mx) W4.out _ _ _ rfl rfl rfl)) rfl rfl ?_
 intro t_ k_;simp only [sI,sZ,sS] at k_;subst k_
 refine QV rfl (fun Q'_ hQ_=>?_)
 refine Jr 12 #[.bool b4,.string u4,.pointer (some ⟨go,0,none⟩)] (qn Tryz.func12 (by kernel_rfl) (by kernel_rfl) (.func (.func 12) #[] #[.pointer (some ⟨go,0,none⟩)]) #[.pointer (some ⟨go,0,none⟩)] rfl _ _ _ rfl rfl (by simp only [List.map_toArray,List.map_cons,List.map_nil];rfl)) rfl ((XQ b4 u4 o3 BG13.out Z3.out V4.out).mono ?_)
 rintro e_ w14 ⟨rfl,hB_,hx_⟩
 rw [O4.out] at hB_
 have BK14:=hid (BK13.out.bex hx_ BK13.out.lt NE.out)
 have BG14:=hid hB_
 have HL14:=hid (Jm HL13.out hx_ HL13.out.size GE.out)
 have TB14:=hid (TB13.out.bex hx_ (Nat.lt_of_le_of_lt (Nat.zero_le _) BK13.out.lt) NZ.out)
 clear hB_ hx_
 refine ⟨_,rfl,?_⟩
 refine hQ_ _ _ (fun _=>BK14.out) ?_
 clear hQ_ Q'_
 change Sq _ _ _ _ _ _ (Act.put _ (some 64) _) _
 simp only [Act.put,sI,sZ,sS]
 refine JH ?_
 go_wp2_with fail
 (try simp only [Act.put,sI,sZ,sS])
 refine QL (fun z_=>Blk z_ gk 30 (KC s)) [] [(0,2),(1,2),(2,2),(3,1),(4,2),(5,2),(6,2),(7,1),(8,0),(9,2),(10,0)] (by kernel_rfl) (by kernel_rfl) (by kernel_rfl) rfl ?_
 intro w15 hb_
 have BK15:=hid (BK14.out.below hb_ BK14.out.lt)
 have BG15:=hid (BG14.out.below hb_ BG14.out.lt)
 have HL15:=hid (HL14.out.trans (hb_.mono HL14.out.size))
 have TB15:=hid (TB14.out.below hb_ (Nat.lt_of_le_of_lt (Nat.zero_le _) BK14.out.lt))
 clear hb_
 refine Qe (.func (.func 12) #[] #[.pointer (some ⟨go,0,none⟩)]) rfl (fun z_=>Qo (.tmp 9) (.inl rfl) _ rfl) rfl rfl ?_
 intro t_ k_;simp only [sI,sZ,sS] at k_;subst k_
 refine Qe (.pointer (some ⟨gk,0,none⟩)) rfl (fun z_=>Qc 30 0 (.pointer (some ⟨gk,0,none⟩)) (.pointer (some ⟨gk,0,none⟩)) (jz gk) _ rfl rfl) rfl rfl ?_
 intro t_ k_;simp only [sI,sZ,sS] at k_;subst k_
 refine Qe (.pointer (some ⟨gk,65,none⟩)) rfl (fun z_=>Qc 26 2 (.pointer (some ⟨gk,0,none⟩)) (.pointer (some ⟨gk,65,none⟩)) (Qfh gk) _ rfl rfl) rfl rfl ?_
 intro t_ k_;simp only [sI,sZ,sS] at k_;subst k_
 refine QA (.int .i64 s.ca) BK15.out rfl (fun z_ hS_=>Qd XF gk 65 (.int .i64 s.ca) (KC s) hS_ ((Qi (n:=64) LN.out 1 65 (by omega)).trans rfl) _ rfl rfl) rfl rfl ?_
 intro t_ k_;simp only [sI,sZ,sS] at k_;subst k_
 refine Qe (.bool b5) rfl (fun z_=>Qcz s.ca _ _ _ _ b5 B5.out rfl rfl rfl) rfl rfl ?_
 intro t_ k_;simp only [sI,sZ,sS] at k_;subst k_
 refine Qe (.pointer (some ⟨gk,0,none⟩)) rfl (fun z_=>Qc 30 0 (.pointer (some ⟨gk,0,none⟩)) (.pointer (some ⟨gk,0,none⟩)) (jz gk) _ rfl rfl) rfl rfl ?_
 intro t_ k_;simp only [sI,sZ,sS] at k_;subst k_
 refine Qe (.pointer (some ⟨gk,65,none⟩)) rfl (fun z_=>Qc 26 2 (.pointer (some ⟨gk,0,none⟩)) (.pointer (some ⟨gk,65,none⟩)) (Qfh gk) _ rfl rfl) rfl rfl ?_
 intro t_ k_;simp only [sI,sZ,sS] at k_;subst k_
 refine QA (.int .i64 s.ca) BK15.out rfl (fun z_ hS_=>Qd XF gk 65 (.int .i64 s.ca) (KC s) hS_ ((Qi (n:=64) LN.out 1 65 (by omega)).trans rfl) _ rfl rfl) rfl rfl ?_
 intro t_ k_;simp only [sI,sZ,sS] at k_;subst k_
 refine QV rfl (fun Q'_ hQ_=>?_)
 refine Jr 15 #[.int .i64 s.ca] (by go_simp) rfl ((Ji.c k s.ca cs _ HC.out).mono ?_)
 rintro e_ w_ ⟨rfl,rfl⟩
 refine ⟨_,rfl,?_⟩
 refine hQ_ _ _ (fun _=>BK15.out) ?_
 clear hQ_ Q'_
 change Sq _ _ _ _ _ _ (Act.put _ (some 73) _) _
 simp only [Act.put,sI,sZ,sS]
 refine Qe (.string u5) rfl (fun z_=>(by rw [← U5.out];exact Jy 9 xO cs W5.out _ _ _ rfl rfl rfl)) rfl rfl ?_
 intro t_ k_;simp only [sI,sZ,sS] at k_;subst k_
 refine QV rfl (fun Q'_ hQ_=>?_)
 refine Jr 12 #[.bool b5,.string u5,.pointer (some ⟨go,0,none⟩)] (qn Tryz.func12 (by kernel_rfl) (by kernel_rfl) (.func (.func 12) #[] #[.pointer (some ⟨go,0,none⟩)]) #[.pointer (some ⟨go,0,none⟩)] rfl _ _ _ rfl rfl (by simp only [List.map_toArray,List.map_cons,List.map_nil];rfl)) rfl ((XQ b5 u5 o4 BG15.out Z4.out V5.out).mono ?_)
 rintro e_ w16 ⟨rfl,hB_,hx_⟩
 rw [O5.out] at hB_
 have BK16:=hid (BK15.out.bex hx_ BK15.out.lt NE.out)
 have BG16:=hid hB_
 have HL16:=hid (Jm HL15.out hx_ HL15.out.size GE.out)
 have TB16:=hid (TB15.out.bex hx_ (Nat.lt_of_le_of_lt (Nat.zero_le _) BK15.out.lt) NZ.out)
 clear hB_ hx_
 refine ⟨_,rfl,?_⟩
 refine hQ_ _ _ (fun _=>BK16.out) ?_
 clear hQ_ Q'_
 change Sq _ _ _ _ _ _ (Act.put _ (some 75) _) _
 simp only [Act.put,sI,sZ,sS]
 refine JH ?_
 go_wp2_with fail
 (try simp only [Act.put,sI,sZ,sS])
 refine QL (fun z_=>Blk z_ gk 30 (KC s)) [] [(0,2),(1,2),(2,2),(3,1),(4,2),(5,2),(6,2),(7,1),(8,0),(9,2),(10,0)] (by kernel_rfl) (by kernel_rfl) (by kernel_rfl) rfl ?_
 intro w17 hb_
 have BK17:=hid (BK16.out.below hb_ BK16.out.lt)
 have BG17:=hid (BG16.out.below hb_ BG16.out.lt)
 have HL17:=hid (HL16.out.trans (hb_.mono HL16.out.size))
 have TB17:=hid (TB16.out.below hb_ (Nat.lt_of_le_of_lt (Nat.zero_le _) BK16.out.lt))
 clear hb_
 refine Qe (.func (.func 12) #[] #[.pointer (some ⟨go,0,none⟩)]) rfl (fun z_=>Qo (.tmp 9) (.inl rfl) _ rfl) rfl rfl ?_
 intro t_ k_;simp only [sI,sZ,sS] at k_;subst k_
 refine Qe (.pointer (some ⟨gk,0,none⟩)) rfl (fun z_=>Qc 30 0 (.pointer (some ⟨gk,0,none⟩)) (.pointer (some ⟨gk,0,none⟩)) (jz gk) _ rfl rfl) rfl rfl ?_
 intro t_ k_;simp only [sI,sZ,sS] at k_;subst k_
 refine Qe (.pointer (some ⟨gk,66,none⟩)) rfl (fun z_=>Qc 26 3 (.pointer (some ⟨gk,0,none⟩)) (.pointer (some ⟨gk,66,none⟩)) (Qfi gk) _ rfl rfl) rfl rfl ?_
 intro t_ k_;simp only [sI,sZ,sS] at k_;subst k_
 refine QA (.int .i64 s.ep) BK17.out rfl (fun z_ hS_=>Qd XF gk 66 (.int .i64 s.ep) (KC s) hS_ ((Qi (n:=64) LN.out 2 66 (by omega)).trans rfl) _ rfl rfl) rfl rfl ?_
 intro t_ k_;simp only [sI,sZ,sS] at k_;subst k_
 refine Qe (.bool b6) rfl (fun z_=>QcA s.ep _ _ _ _ b6 B6.out rfl rfl rfl) rfl rfl ?_
 intro t_ k_;simp only [sI,sZ,sS] at k_;subst k_
 refine Qe (.pointer (some ⟨gk,0,none⟩)) rfl (fun z_=>Qc 30 0 (.pointer (some ⟨gk,0,none⟩)) (.pointer (some ⟨gk,0,none⟩)) (jz gk) _ rfl rfl) rfl rfl ?_
 intro t_ k_;simp only [sI,sZ,sS] at k_;subst k_
 refine Qe (.pointer (some ⟨gk,66,none⟩)) rfl (fun z_=>Qc 26 3 (.pointer (some ⟨gk,0,none⟩)) (.pointer (some ⟨gk,66,none⟩)) (Qfi gk) _ rfl rfl) rfl rfl ?_
 intro t_ k_;simp only [sI,sZ,sS] at k_;subst k_
 refine QA (.int .i64 s.ep) BK17.out rfl (fun z_ hS_=>Qd XF gk 66 (.int .i64 s.ep) (KC s) hS_ ((Qi (n:=64) LN.out 2 66 (by omega)).trans rfl) _ rfl rfl) rfl rfl ?_
 intro t_ k_;simp only [sI,sZ,sS] at k_;subst k_
 refine QV rfl (fun Q'_ hQ_=>?_)
 refine Jr 16 #[.int .i64 s.ep] (by go_simp) rfl ((QfQ s.ep _).mono ?_)
 rintro e_ w18 ⟨rfl,hb_⟩
 have BK18:=hid (BK17.out.below hb_ BK17.out.lt)
 have BG18:=hid (BG17.out.below hb_ BG17.out.lt)
 have HL18:=hid (HL17.out.trans (hb_.mono HL17.out.size))
 have TB18:=hid (TB17.out.below hb_ (Nat.lt_of_le_of_lt (Nat.zero_le _) BK17.out.lt))
 clear hb_
 refine ⟨_,rfl,?_⟩
 refine hQ_ _ _ (fun _=>BK18.out) ?_
 clear hQ_ Q'_
 change Sq _ _ _ _ _ _ (Act.put _ (some 84) _) _
 simp only [Act.put,sI,sZ,sS]
 refine Qe (.string u6) rfl (fun z_=>(by rw [← U6.out];exact Jy 9 epB (Kb s.ep) W6.out _ _ _ rfl rfl rfl)) rfl rfl ?_
 intro t_ k_;simp only [sI,sZ,sS] at k_;subst k_
 refine QV rfl (fun Q'_ hQ_=>?_)
 refine Jr 12 #[.bool b6,.string u6,.pointer (some ⟨go,0,none⟩)] (qn Tryz.func12 (by kernel_rfl) (by kernel_rfl) (.func (.func 12) #[] #[.pointer (some ⟨go,0,none⟩)]) #[.pointer (some ⟨go,0,none⟩)] rfl _ _ _ rfl rfl (by simp only [List.map_toArray,List.map_cons,List.map_nil];rfl)) rfl ((XQ b6 u6 o5 BG18.out Z5.out V6.out).mono ?_)
 rintro e_ w19 ⟨rfl,hB_,hx_⟩
 rw [O6.out] at hB_
 have BK19:=hid (BK18.out.bex hx_ BK18.out.lt NE.out)
 have BG19:=hid hB_
 have HL19:=hid (Jm HL18.out hx_ HL18.out.size GE.out)
 have TB19:=hid (TB18.out.bex hx_ (Nat.lt_of_le_of_lt (Nat.zero_le _) BK18.out.lt) NZ.out)
 clear hB_ hx_
 refine ⟨_,rfl,?_⟩
 refine hQ_ _ _ (fun _=>BK19.out) ?_
 clear hQ_ Q'_
 change Sq _ _ _ _ _ _ (Act.put _ (some 86) _) _
 simp only [Act.put,sI,sZ,sS]
 refine JH ?_
 go_wp2_with fail
 (try simp only [Act.put,sI,sZ,sS])
 refine QL (fun z_=>Blk z_ gk 30 (KC s)) [] [(0,2),(1,2),(2,1),(3,2),(4,2),(5,1),(6,0),(7,2),(8,0)] (by kernel_rfl) (by kernel_rfl) (by kernel_rfl) rfl ?_
 intro w20 hb_
 have BK20:=hid (BK19.out.below hb_ BK19.out.lt)
 have BG20:=hid (BG19.out.below hb_ BG19.out.lt)
 have HL20:=hid (HL19.out.trans (hb_.mono HL19.out.size))
 have TB20:=hid (TB19.out.below hb_ (Nat.lt_of_le_of_lt (Nat.zero_le _) BK19.out.lt))
 clear hb_
 refine Qe (.func (.func 12) #[] #[.pointer (some ⟨go,0,none⟩)]) rfl (fun z_=>Qo (.tmp 9) (.inl rfl) _ rfl) rfl rfl ?_
 intro t_ k_;simp only [sI,sZ,sS] at k_;subst k_
 refine Qe (.pointer (some ⟨gk,74,none⟩)) rfl (fun z_=>Qc 30 5 (.pointer (some ⟨gk,0,none⟩)) (.pointer (some ⟨gk,74,none⟩)) (Qff gk) _ rfl rfl) rfl rfl ?_
 intro t_ k_;simp only [sI,sZ,sS] at k_;subst k_
 refine QA (.int .i64 s.rt) BK20.out rfl (fun z_ hS_=>Qd XF gk 74 (.int .i64 s.rt) (KC s) hS_ ((Qi (n:=64) LN.out 10 74 (by omega)).trans rfl) _ rfl rfl) rfl rfl ?_
 intro t_ k_;simp only [sI,sZ,sS] at k_;subst k_
 refine Qe (.bool b7) rfl (fun z_=>QcA s.rt _ _ _ _ b7 B7.out rfl rfl rfl) rfl rfl ?_
 intro t_ k_;simp only [sI,sZ,sS] at k_;subst k_
 refine Qe (.pointer (some ⟨gk,74,none⟩)) rfl (fun z_=>Qc 30 5 (.pointer (some ⟨gk,0,none⟩)) (.pointer (some ⟨gk,74,none⟩)) (Qff gk) _ rfl rfl) rfl rfl ?_
 intro t_ k_;simp only [sI,sZ,sS] at k_;subst k_
 refine QA (.int .i64 s.rt) BK20.out rfl (fun z_ hS_=>Qd XF gk 74 (.int .i64 s.rt) (KC s) hS_ ((Qi (n:=64) LN.out 10 74 (by omega)).trans rfl) _ rfl rfl) rfl rfl ?_
 intro t_ k_;simp only [sI,sZ,sS] at k_;subst k_
 refine QV rfl (fun Q'_ hQ_=>?_)
 refine Jr 14 #[.int .i64 s.rt] (by go_simp) rfl ((zi s.rt R0.out R1.out _ TB20.out).mono ?_)
 rintro e_ w21 ⟨rfl,hb_⟩
 have BK21:=hid (BK20.out.below hb_ BK20.out.lt)
 have BG21:=hid (BG20.out.below hb_ BG20.out.lt)
 have HL21:=hid (HL20.out.trans (hb_.mono HL20.out.size))
 have TB21:=hid (TB20.out.below hb_ (Nat.lt_of_le_of_lt (Nat.zero_le _) BK20.out.lt))
 clear hb_
 refine ⟨_,rfl,?_⟩
 refine hQ_ _ _ (fun _=>BK21.out) ?_
 clear hQ_ Q'_
 change Sq _ _ _ _ _ _ (Act.put _ (some 93) _) _
 simp only [Act.put,sI,sZ,sS]
 refine Qe (.string u7) rfl (fun z_=>(by rw [← U7.out];exact Jy 9 xP (Ku s.rt) W7.out _ _ _ rfl rfl rfl)) rfl rfl ?_
 intro t_ k_;simp only [sI,sZ,sS] at k_;subst k_
 refine QV rfl (fun Q'_ hQ_=>?_)
 refine Jr 12 #[.bool b7,.string u7,.pointer (some ⟨go,0,none⟩)] (qn Tryz.func12 (by kernel_rfl) (by kernel_rfl) (.func (.func 12) #[] #[.pointer (some ⟨go,0,none⟩)]) #[.pointer (some ⟨go,0,none⟩)] rfl _ _ _ rfl rfl (by simp only [List.map_toArray,List.map_cons,List.map_nil];rfl)) rfl ((XQ b7 u7 o6 BG21.out Z6.out V7.out).mono ?_)
 rintro e_ w22 ⟨rfl,hB_,hx_⟩
 rw [O7.out] at hB_
 have BK22:=hid (BK21.out.bex hx_ BK21.out.lt NE.out)
 have BG22:=hid hB_
 have HL22:=hid (Jm HL21.out hx_ HL21.out.size GE.out)
 have TB22:=hid (TB21.out.bex hx_ (Nat.lt_of_le_of_lt (Nat.zero_le _) BK21.out.lt) NZ.out)
 clear hB_ hx_
 refine ⟨_,rfl,?_⟩
 refine hQ_ _ _ (fun _=>BK22.out) ?_
 clear hQ_ Q'_
 change Sq _ _ _ _ _ _ (Act.put _ (some 95) _) _
 simp only [Act.put,sI,sZ,sS]
 refine JH ?_
 go_wp2_with (first
  |((with_reducible refine Qa (N:=96) rfl ?_);refine Qb (.string o7) (Qd Kx go 0 (.string o7) #[.string o7] BG22.out rfl _ rfl rfl) rfl ?_)
  |((with_reducible refine Qa (N:=97) rfl ?_);refine Qb (.string (o7++Vr)) (Jy 9 o7 Vr C5.out _ _ _ rfl rfl rfl) rfl ?_))
 (try simp only [Act.put,sI,sZ,sS])
 go_ret2
 exact ⟨by rw [OZ.out];rfl,HL22.out⟩
def JY.f(k:Nat)(a0:List Int)(a1 a2 a3 a4 a5 a6:Int)(a7 a8 a9:Bool)(a10 a11:Int):Option (ByteArray×Int):=
  (JO.f k a0 a1 a2 a3 a4 a5 a6 a7 a8 a9 a10 a11).bind fun r=>if r=true then (Qy.f k a0).bind fun x=>(Jw.f a4 a5 a6 a7).bind fun y=>(Ji.f k a2).bind fun z=>
    if x.1.size≤1000∧y.1.size≤1000∧z.size≤1000∧(a1=0∨a1=1) ∧ -1000≤a10∧a10≤1000 ∧ -1000≤a11∧a11≤1000 then some (vc ⟨⟨#[]⟩,0,0,a0,a1,a2,a3,a4,a5,a6,a7,a8,a9,a10,a11,0,.map none⟩ x.1 y.1 z,0) else none else some (⟨#[]⟩,5)
theorem JY.c(k:Nat)(a0:List Int)(a1 a2 a3 a4 a5 a6:Int)(a7 a8 a9:Bool)(a10 a11:Int)(hl:a0.length=64)(r1:ByteArray)(r2:Int)(w:World)(ht:Tb w)(hz:0<w.heap.size)(h:JY.f k a0 a1 a2 a3 a4 a5 a6 a7 a8 a9 a10 a11=some (r1,r2)):
    Calls Tryz.prog 6 #[.agg (xv (Value.int .i8) a0 [.int .i64 a1,.int .i64 a2,.int .i64 a3,.int .i64 a4,.int .i64 a5,.int .i64 a6,.bool a7,.bool a8,.bool a9,.int .i64 a10,.int .i64 a11])] w fun e w'=>e=.returned (.tuple #[.string r1,.int .i64 r2])∧Below w.heap.size w w':=by
  unfold JY.f at h
  obtain ⟨r,hr,h⟩:=Ia h
  cases r with
  |false=>
    rw [if_neg (by decide)] at h
    simp only [Option.some.injEq,Prod.mk.injEq] at h
    obtain ⟨rfl,rfl⟩:=h
    exact QcD k ⟨⟨#[]⟩,0,0,a0,a1,a2,a3,a4,a5,a6,a7,a8,a9,a10,a11,0,.map none⟩ hl hr ht hz
  |true=>
    rw [if_pos rfl] at h
    obtain ⟨⟨fb,fe⟩,hf,h⟩:=Ia h
    obtain ⟨⟨sb,si⟩,hs,h⟩:=Ia h
    obtain ⟨cs,hc,h⟩:=Ia h
    split at h
    · rename_i c
      simp only [Option.some.injEq,Prod.mk.injEq] at h
      obtain ⟨rfl,rfl⟩:=h
      obtain ⟨c1,c2,c3,c4,c5,c6,c7,c8⟩:=c
      exact QaT k ⟨⟨#[]⟩,0,0,a0,a1,a2,a3,a4,a5,a6,a7,a8,a9,a10,a11,0,.map none⟩ hl hr fb sb cs fe si hf hs hc c1 c2 c3 c4 c5 c6 c7 c8 ht hz
    · cases h
end Go.Proofs.YtaipghemddjecaaGreatDoor
