import Derived.Test.YtaipghemddjecaaGreatDoorMiy
import Derived.Test.YtaipghemddjecaaGreatDoorProg
import Derived.Test.YtaipghemddjecaaGreatDoorL6wy
import Derived.Test.YtaipghemddjecaaGreatDoorL2wy
import Derived.Test.YtaipghemddjecaaGreatDoorF2wy
import Derived.Test.YtaipghemddjecaaGreatDoorR1wy
import Derived.Test.YtaipghemddjecaaGreatDoorS1wy
import Derived.Test.YtaipghemddjecaaGreatDoorYvy
namespace Go.Proofs.YtaipghemddjecaaGreatDoor
set_option maxHeartbeats 40000000
set_option maxRecDepth 100000
open Go.RowKit
set_option linter.unusedVariables false
set_option linter.unusedSimpArgs false
theorem JT(g:Nat)(w:World):(Instr.fieldAt 54 (Pg g 0) 1).run Tryz.prog w=.ok (Pg g 1) w:=by kernel_rfl
theorem Jt(g:Nat)(w:World):(Instr.fieldAt 54 (Pg g 0) 2).run Tryz.prog w=.ok (Pg g 2) w:=by kernel_rfl
theorem KF(g:Nat)(w:World):(Instr.fieldAt 54 (Pg g 0) 0).run Tryz.prog w=.ok (Pg g 0) w:=by kernel_rfl
theorem Xl(g:Nat)(w:World):(Instr.fieldAt 54 (Pg g 0) 3).run Tryz.prog w=.ok (Pg g 3) w:=by kernel_rfl
theorem KG(g:Nat)(w:World):(Instr.fieldAt 30 (Pg g 3) 0).run Tryz.prog w=.ok (Pg g 3) w:=by kernel_rfl
theorem xM(g:Nat)(w:World):(Instr.fieldAt 26 (Pg g 3) 0).run Tryz.prog w=.ok (Pg g 3) w:=by kernel_rfl
theorem ql(g:Nat)(w:World):(Instr.fieldAt 26 (Pg g 3) 2).run Tryz.prog w=.ok (Pg g 68) w:=by kernel_rfl
theorem Qcp(g:Nat)(w:World):(Instr.fieldAt 30 (Pg g 3) 2).run Tryz.prog w=.ok (Pg g 74) w:=by kernel_rfl
theorem Qcq(g:Nat)(w:World):(Instr.fieldAt 30 (Pg g 3) 3).run Tryz.prog w=.ok (Pg g 75) w:=by kernel_rfl
theorem Qcr(g:Nat)(w:World):(Instr.fieldAt 54 (Pg g 0) 4).run Tryz.prog w=.ok (Pg g 78) w:=by kernel_rfl
theorem Qcs(g:Nat)(w:World):(Instr.fieldAt 30 (Pg g 3) 4).run Tryz.prog w=.ok (Pg g 76) w:=by kernel_rfl
theorem Qct(g:Nat)(w:World):(Instr.fieldAt 26 (Pg g 3) 3).run Tryz.prog w=.ok (Pg g 69) w:=by kernel_rfl
theorem Qcu(g:Nat)(w:World):(Instr.fieldAt 30 (Pg g 3) 5).run Tryz.prog w=.ok (Pg g 77) w:=by kernel_rfl
theorem Qcv(g:Nat)(w:World):(Instr.fieldAt 30 (Pg g 3) 1).run Tryz.prog w=.ok (Pg g 70) w:=by kernel_rfl
def Ql.f(s0:ByteArray)(s1 s2:Int)(s3:List Int)(s4 s5 s6 s7 s8 s9:Int)(s10 s11 s12:Bool)(s13 s14 s15:Int)(s16:Value)(a1_0 a1_1 a1_2:Int):Option (Int×ByteArray×Int×Int×(List Int)×Int×Int×Int×Int×Int×Int×Bool×Bool×Bool×Int×Int×Int×Value):=some (a1_1,s0,a1_0,a1_2,s3,s4,s5,s6,s7,s8,s9,s10,s11,s12,s13,s14,s15,s16)
theorem Ql.c(s0:ByteArray)(s1 s2:Int)(s3:List Int)(s4 s5 s6 s7 s8 s9:Int)(s10 s11 s12:Bool)(s13 s14 s15:Int)(s16:Value)(a1_0 a1_1 a1_2:Int)(hls3:s3.length=64)(r1:Int)(q0:ByteArray)(q1 q2:Int)(q3:List Int)(q4 q5 q6 q7 q8 q9:Int)(q10 q11 q12:Bool)(q13 q14 q15:Int)(q16:Value)(g:Nat)(w:World)(hB:Blk w g 54 (yv [.string s0,Ii s1,Ii s2] (Value.int .i8) s3 [Ii s4,Ii s5,Ii s6,Ii s7,Ii s8,Ii s9,.bool s10,.bool s11,.bool s12,Ii s13,Ii s14,Ii s15,s16]))(h:Ql.f s0 s1 s2 s3 s4 s5 s6 s7 s8 s9 s10 s11 s12 s13 s14 s15 s16 a1_0 a1_1 a1_2=some (r1,q0,q1,q2,q3,q4,q5,q6,q7,q8,q9,q10,q11,q12,q13,q14,q15,q16)):
 Calls Tryz.prog 44 #[Pg g 0,.agg #[Ii a1_0,Ii a1_1,Ii a1_2]] w fun e w'=>e=.returned (Ii r1)∧q3.length=64∧Blk w' g 54 (yv [.string q0,Ii q1,Ii q2] (Value.int .i8) q3 [Ii q4,Ii q5,Ii q6,Ii q7,Ii q8,Ii q9,.bool q10,.bool q11,.bool q12,Ii q13,Ii q14,Ii q15,q16])∧Bex g w.heap.size w w':=by
 have LN_s3:=hid hls3
 clear hls3
 have BKr:=hid hB
 clear hB
 have HL:=hid (Bex.refl g w.heap.size w)
 have H:(some (a1_1,s0,a1_0,a1_2,s3,s4,s5,s6,s7,s8,s9,s10,s11,s12,s13,s14,s15,s16))=some (r1,q0,q1,q2,q3,q4,q5,q6,q7,q8,q9,q10,q11,q12,q13,q14,q15,q16):=h
 clear h
 simp only [Option.some.injEq,Prod.mk.injEq] at H
 obtain ⟨rfl,rfl,rfl,rfl,rfl,rfl,rfl,rfl,rfl,rfl,rfl,rfl,rfl,rfl,rfl,rfl,rfl,rfl⟩:=H
 go_enter Tryz.func44,Tryz.ntmps44
 go_wp2_with (first
  |((with_reducible refine Qa (N:=3) rfl ?_);obtain ⟨gb1,hgb1⟩:∃ g_,w.heap.size=g_:=⟨_,rfl⟩;refine Jx #[Ii a1_0,Ii a1_1,Ii a1_2] gb1 hgb1 rfl _ rfl rfl ?_;intro w2 hb_ hB_ hs_;have GEb1:Hid (w.heap.size≤gb1):=hid (by have:=HL.out.size;omega);have NBr_b1:Hid (g≠gb1):=hid (by have:=BKr.out.lt;omega);have NBb1_r:Hid (gb1≠g):=hid (by have:=NBr_b1.out;omega);replace BKr:=hid (BKr.out.below hb_ (by rw [← hgb1];exact BKr.out.lt));replace HL:=hid (HL.out.below hb_ (GEb1.out));have BKb1:=hid hB_;clear hb_ hB_ hs_ hgb1))
 (try simp only [Act.put,sI,sZ,sS])
 have WR64:=Zs
 have WR32:=ZA
 have WR8:=Ko
 have WRU:=ZY
 refine QL (fun z_=>Bex g w.heap.size w z_∧Blk z_ gb1 75 #[Ii a1_0,Ii a1_1,Ii a1_2]∧True) [11] [(0,2),(1,2),(2,2),(3,1),(4,2),(5,1),(6,2),(7,2),(8,0),(9,2),(10,2),(11,0)] (by kernel_rfl) (by kernel_rfl) (by kernel_rfl) rfl ?_
 intro w3 hb_
 replace BKr:=hid (BKr.out.below hb_ BKr.out.lt)
 replace BKb1:=hid (BKb1.out.below hb_ BKb1.out.lt)
 replace HL:=hid (HL.out.below hb_ HL.out.size)
 clear hb_
 refine Qe (Pg g 0) rfl (fun z_=>Qo (.tmp 0) (.inl rfl) _ rfl) rfl rfl ?_
 intro t_ k_;simp only [sI,sZ,sS] at k_;subst k_
 refine Qe (Pg g 0) rfl (fun z_=>Qo (.tmp 0) (.inl rfl) _ rfl) rfl rfl ?_
 intro t_ k_;simp only [sI,sZ,sS] at k_;subst k_
 refine Qe (Pg gb1 0) rfl (fun z_=>Qc 75 0 (Pg gb1 0) (Pg gb1 0) (ZC gb1) _ rfl rfl) rfl rfl ?_
 intro t_ k_;simp only [sI,sZ,sS] at k_;subst k_
 refine QA (Ii a1_0) ⟨HL.out,BKb1.out,trivial⟩ rfl (fun z_ hS_=>Qd sT3 gb1 (0) (Ii a1_0) (#[Ii a1_0,Ii a1_1,Ii a1_2]) hS_.2.1 rfl _ rfl rfl) rfl rfl ?_
 intro t_ k_;simp only [sI,sZ,sS] at k_;subst k_
 refine Qe (Pg gb1 2) rfl (fun z_=>Qc 75 2 (Pg gb1 0) (Pg gb1 2) (Js gb1) _ rfl rfl) rfl rfl ?_
 intro t_ k_;simp only [sI,sZ,sS] at k_;subst k_
 refine QA (Ii a1_2) ⟨HL.out,BKb1.out,trivial⟩ rfl (fun z_ hS_=>Qd Zk gb1 (2) (Ii a1_2) (#[Ii a1_0,Ii a1_1,Ii a1_2]) hS_.2.1 rfl _ rfl rfl) rfl rfl ?_
 intro t_ k_;simp only [sI,sZ,sS] at k_;subst k_
 refine Qe (Pg g 0) rfl (fun z_=>by go_simp <;> (unfold wrap64;omega)) rfl rfl ?_
 intro t_ k_;simp only [sI,sZ,sS] at k_;subst k_
 refine Qe (Pg g 1) rfl (fun z_=>Qc 54 1 (Pg g 0) (Pg g 1) (JT g) _ rfl rfl) rfl rfl ?_
 intro t_ k_;simp only [sI,sZ,sS] at k_;subst k_
 refine QV rfl (fun Q'_ hQ_=>?_)
 (with_reducible refine Qf (t:=3) (p:=12) rfl ?_)
 refine QH sT3 g (1) (Ii a1_0) (yv [.string s0,Ii s1,Ii s2] (Value.int .i8) s3 [Ii s4,Ii s5,Ii s6,Ii s7,Ii s8,Ii s9,.bool s10,.bool s11,.bool s12,Ii s13,Ii s14,Ii s15,s16]) (yv [.string s0,Ii a1_0,Ii s2] (Value.int .i8) s3 [Ii s4,Ii s5,Ii s6,Ii s7,Ii s8,Ii s9,.bool s10,.bool s11,.bool s12,Ii s13,Ii s14,Ii s15,s16]) BKr.out (Xm (a:=3) (n:=64) (c:=13) rfl LN_s3.out rfl (m:=1) (by decide)) rfl rfl ((Xr (a:=3) rfl 1 (by decide) _).trans rfl) rfl _ _ rfl rfl rfl ?_
 intro w4 ho_ hB_
 replace BKb1:=hid (BKb1.out.off ho_ NBb1_r.out)
 replace HL:=hid (HL.out.off ho_ (.inl rfl))
 replace BKr:=hid hB_
 clear ho_ hB_
 refine Qz ?_
 refine hQ_ _ _ (fun _=>⟨HL.out,BKb1.out,trivial⟩) ?_
 clear hQ_ Q'_
 simp only [Act.put]
 refine Qe (Pg g 0) rfl (fun z_=>by go_simp <;> (unfold wrap64;omega)) rfl rfl ?_
 intro t_ k_;simp only [sI,sZ,sS] at k_;subst k_
 refine Qe (Pg g 2) rfl (fun z_=>Qc 54 2 (Pg g 0) (Pg g 2) (Jt g) _ rfl rfl) rfl rfl ?_
 intro t_ k_;simp only [sI,sZ,sS] at k_;subst k_
 refine QV rfl (fun Q'_ hQ_=>?_)
 (with_reducible refine Qf (t:=33) (p:=14) rfl ?_)
 refine QH Zk g (2) (Ii a1_2) (yv [.string s0,Ii a1_0,Ii s2] (Value.int .i8) s3 [Ii s4,Ii s5,Ii s6,Ii s7,Ii s8,Ii s9,.bool s10,.bool s11,.bool s12,Ii s13,Ii s14,Ii s15,s16]) (yv [.string s0,Ii a1_0,Ii a1_2] (Value.int .i8) s3 [Ii s4,Ii s5,Ii s6,Ii s7,Ii s8,Ii s9,.bool s10,.bool s11,.bool s12,Ii s13,Ii s14,Ii s15,s16]) BKr.out (Xm (a:=3) (n:=64) (c:=13) rfl LN_s3.out rfl (m:=2) (by decide)) rfl rfl ((Xr (a:=3) rfl 2 (by decide) _).trans rfl) rfl _ _ rfl rfl rfl ?_
 intro w5 ho_ hB_
 replace BKb1:=hid (BKb1.out.off ho_ NBb1_r.out)
 replace HL:=hid (HL.out.off ho_ (.inl rfl))
 replace BKr:=hid hB_
 clear ho_ hB_
 refine Qz ?_
 refine hQ_ _ _ (fun h_=>absurd h_ (by decide)) ?_
 clear hQ_ Q'_
 simp only [Act.put]
 refine JH ?_
 clear WR64 WR32 WR8 WRU
 go_wp2_with (first
  |((with_reducible refine Qa (N:=15) rfl ?_);refine Qb (Pg gb1 1) (Qc 75 1 (Pg gb1 0) (Pg gb1 1) (Ka gb1) _ rfl rfl) rfl ?_)
  |((with_reducible refine Qa (N:=16) rfl ?_);refine Qb (Ii a1_1) (Qd sT3 gb1 (1) (Ii a1_1) (#[Ii a1_0,Ii a1_1,Ii a1_2]) BKb1.out rfl _ rfl rfl) rfl ?_))
 (try simp only [Act.put,sI,sZ,sS])
 go_ret
 exact ⟨by first|rfl|(simp;done)|(simp [*];done),LN_s3.out,(by exact BKr.out),HL.out⟩
def Qk.f(k:Nat)(s0:ByteArray)(s1 s2:Int)(s3:List Int)(s4 s5 s6 s7 s8 s9:Int)(s10 s11 s12:Bool)(s13 s14 s15:Int)(s16:Value)(a1:ByteArray):Option (ByteArray×Int×Int×(List Int)×Int×Int×Int×Int×Int×Int×Bool×Bool×Bool×Int×Int×Int×Value):=if s2=0 then ((QN.f k s0 s1 a1).bind fun bt1=>((Ql.f s0 s1 s2 s3 s4 s5 s6 s7 s8 s9 s10 s11 s12 s13 s14 s15 s16 bt1.1 bt1.2.1 bt1.2.2).bind fun bt4=>(some (bt4.2.1,bt4.2.2.1,bt4.2.2.2.1,bt4.2.2.2.2.1,bt4.2.2.2.2.2.1,bt4.2.2.2.2.2.2.1,bt4.2.2.2.2.2.2.2.1,bt4.2.2.2.2.2.2.2.2.1,bt4.2.2.2.2.2.2.2.2.2.1,bt4.2.2.2.2.2.2.2.2.2.2.1,bt4.2.2.2.2.2.2.2.2.2.2.2.1,bt4.2.2.2.2.2.2.2.2.2.2.2.2.1,bt4.2.2.2.2.2.2.2.2.2.2.2.2.2.1,bt4.2.2.2.2.2.2.2.2.2.2.2.2.2.2.1,bt4.2.2.2.2.2.2.2.2.2.2.2.2.2.2.2.1,bt4.2.2.2.2.2.2.2.2.2.2.2.2.2.2.2.2.1,bt4.2.2.2.2.2.2.2.2.2.2.2.2.2.2.2.2.2)))) else (some (s0,s1,s2,s3,s4,s5,s6,s7,s8,s9,s10,s11,s12,s13,s14,s15,s16))
theorem Qk.c(k:Nat)(s0:ByteArray)(s1 s2:Int)(s3:List Int)(s4 s5 s6 s7 s8 s9:Int)(s10 s11 s12:Bool)(s13 s14 s15:Int)(s16:Value)(a1:ByteArray)(hls3:s3.length=64)(q0:ByteArray)(q1 q2:Int)(q3:List Int)(q4 q5 q6 q7 q8 q9:Int)(q10 q11 q12:Bool)(q13 q14 q15:Int)(q16:Value)(g:Nat)(w:World)(hB:Blk w g 54 (yv [.string s0,Ii s1,Ii s2] (Value.int .i8) s3 [Ii s4,Ii s5,Ii s6,Ii s7,Ii s8,Ii s9,.bool s10,.bool s11,.bool s12,Ii s13,Ii s14,Ii s15,s16]))(h:Qk.f k s0 s1 s2 s3 s4 s5 s6 s7 s8 s9 s10 s11 s12 s13 s14 s15 s16 a1=some (q0,q1,q2,q3,q4,q5,q6,q7,q8,q9,q10,q11,q12,q13,q14,q15,q16)):
 Calls Tryz.prog 39 #[Pg g 0,.string a1] w fun e w'=>e=.returned (.tuple #[])∧q3.length=64∧Blk w' g 54 (yv [.string q0,Ii q1,Ii q2] (Value.int .i8) q3 [Ii q4,Ii q5,Ii q6,Ii q7,Ii q8,Ii q9,.bool q10,.bool q11,.bool q12,Ii q13,Ii q14,Ii q15,q16])∧Bex g w.heap.size w w':=by
 have LN_s3:=hid hls3
 clear hls3
 have BKr:=hid hB
 clear hB
 have HL:=hid (Bex.refl g w.heap.size w)
 have H:(if s2=0 then ((QN.f k s0 s1 a1).bind fun bt1=>((Ql.f s0 s1 s2 s3 s4 s5 s6 s7 s8 s9 s10 s11 s12 s13 s14 s15 s16 bt1.1 bt1.2.1 bt1.2.2).bind fun bt4=>(some (bt4.2.1,bt4.2.2.1,bt4.2.2.2.1,bt4.2.2.2.2.1,bt4.2.2.2.2.2.1,bt4.2.2.2.2.2.2.1,bt4.2.2.2.2.2.2.2.1,bt4.2.2.2.2.2.2.2.2.1,bt4.2.2.2.2.2.2.2.2.2.1,bt4.2.2.2.2.2.2.2.2.2.2.1,bt4.2.2.2.2.2.2.2.2.2.2.2.1,bt4.2.2.2.2.2.2.2.2.2.2.2.2.1,bt4.2.2.2.2.2.2.2.2.2.2.2.2.2.1,bt4.2.2.2.2.2.2.2.2.2.2.2.2.2.2.1,bt4.2.2.2.2.2.2.2.2.2.2.2.2.2.2.2.1,bt4.2.2.2.2.2.2.2.2.2.2.2.2.2.2.2.2.1,bt4.2.2.2.2.2.2.2.2.2.2.2.2.2.2.2.2.2)))) else (some (s0,s1,s2,s3,s4,s5,s6,s7,s8,s9,s10,s11,s12,s13,s14,s15,s16)))=some (q0,q1,q2,q3,q4,q5,q6,q7,q8,q9,q10,q11,q12,q13,q14,q15,q16):=h
 clear h
 by_cases c22:s2=0
 ·
  rw [if_pos c22] at H
  have c22b0:(s2==0)=true:=beq_iff_eq.mpr c22
  have c22b1:(s2 != 0)=false:=bne_eq_false_iff_eq.mpr c22
  have hc22:=hid c22
  clear c22
  replace H:=Ia H
  obtain ⟨⟨t1,t2,t3⟩,A23_,H⟩:=H
  dsimp only at H
  have A23:=hid A23_
  clear A23_
  replace H:=Ia H
  obtain ⟨⟨t4,t5,t6,t7,t8,t9,t10,t11,t12,t13,t14,t15,t16,t17,t18,t19,t20,t21⟩,A24_,H⟩:=H
  dsimp only at H
  have A24:=hid A24_
  clear A24_
  simp only [Option.some.injEq,Prod.mk.injEq] at H
  obtain ⟨rfl,rfl,rfl,rfl,rfl,rfl,rfl,rfl,rfl,rfl,rfl,rfl,rfl,rfl,rfl,rfl,rfl⟩:=H
  go_enter Tryz.func39,Tryz.ntmps39
  go_wp2_with (first
   |((with_reducible refine Qa (N:=6) rfl ?_);refine Qb (Pg g 2) (Qc 54 2 (Pg g 0) (Pg g 2) (Jt g) _ rfl rfl) rfl ?_)
   |((with_reducible refine Qa (N:=7) rfl ?_);refine Qb (Ii s2) (Qd Zk g (2) (Ii s2) ((yv [.string s0,Ii s1,Ii s2] (Value.int .i8) s3 [Ii s4,Ii s5,Ii s6,Ii s7,Ii s8,Ii s9,.bool s10,.bool s11,.bool s12,Ii s13,Ii s14,Ii s15,s16])) BKr.out ((QC (a:=3) rfl 2 (by decide)).trans rfl) _ rfl rfl) rfl ?_))
  (try simp only [Act.put,sI,sZ,sS])
  have WR64:=Zs
  have WR32:=ZA
  have WR8:=Ko
  have WRU:=ZY
  refine QL (fun z_=>Bex g w.heap.size w z_∧Blk z_ g 54 (yv [.string s0,Ii s1,Ii s2] (Value.int .i8) s3 [Ii s4,Ii s5,Ii s6,Ii s7,Ii s8,Ii s9,.bool s10,.bool s11,.bool s12,Ii s13,Ii s14,Ii s15,s16])∧True) [10,11] [(0,2),(1,2),(2,2),(3,2),(4,1),(5,2),(6,2),(7,2),(8,1),(9,2),(10,0),(11,0)] (by kernel_rfl) (by kernel_rfl) (by kernel_rfl) rfl ?_
  intro w25 hb_
  replace BKr:=hid (BKr.out.below hb_ BKr.out.lt)
  replace HL:=hid (HL.out.below hb_ HL.out.size)
  clear hb_
  refine Qe (Pg g 0) rfl (fun z_=>Qo (.tmp 0) (.inl rfl) _ rfl) rfl rfl ?_
  intro t_ k_;simp only [sI,sZ,sS] at k_;subst k_
  refine Qe (Pg g 0) rfl (fun z_=>Qo (.tmp 0) (.inl rfl) _ rfl) rfl rfl ?_
  intro t_ k_;simp only [sI,sZ,sS] at k_;subst k_
  refine Qe (Pg g 0) rfl (fun z_=>by go_simp <;> (unfold wrap64;omega)) rfl rfl ?_
  intro t_ k_;simp only [sI,sZ,sS] at k_;subst k_
  refine Qe (Pg g 0) rfl (fun z_=>Qc 54 0 (Pg g 0) (Pg g 0) (KF g) _ rfl rfl) rfl rfl ?_
  intro t_ k_;simp only [sI,sZ,sS] at k_;subst k_
  refine QA (.string s0) ⟨HL.out,BKr.out,trivial⟩ rfl (fun z_ hS_=>Qd sT9 g (0) (.string s0) ((yv [.string s0,Ii s1,Ii s2] (Value.int .i8) s3 [Ii s4,Ii s5,Ii s6,Ii s7,Ii s8,Ii s9,.bool s10,.bool s11,.bool s12,Ii s13,Ii s14,Ii s15,s16])) hS_.2.1 ((QC (a:=3) rfl 0 (by decide)).trans rfl) _ rfl rfl) rfl rfl ?_
  intro t_ k_;simp only [sI,sZ,sS] at k_;subst k_
  refine Qe (Pg g 0) rfl (fun z_=>Qo (.tmp 0) (.inl rfl) _ rfl) rfl rfl ?_
  intro t_ k_;simp only [sI,sZ,sS] at k_;subst k_
  refine Qe (Pg g 0) rfl (fun z_=>by go_simp <;> (unfold wrap64;omega)) rfl rfl ?_
  intro t_ k_;simp only [sI,sZ,sS] at k_;subst k_
  refine Qe (Pg g 1) rfl (fun z_=>Qc 54 1 (Pg g 0) (Pg g 1) (JT g) _ rfl rfl) rfl rfl ?_
  intro t_ k_;simp only [sI,sZ,sS] at k_;subst k_
  refine QA (Ii s1) ⟨HL.out,BKr.out,trivial⟩ rfl (fun z_ hS_=>Qd sT3 g (1) (Ii s1) ((yv [.string s0,Ii s1,Ii s2] (Value.int .i8) s3 [Ii s4,Ii s5,Ii s6,Ii s7,Ii s8,Ii s9,.bool s10,.bool s11,.bool s12,Ii s13,Ii s14,Ii s15,s16])) hS_.2.1 ((QC (a:=3) rfl 1 (by decide)).trans rfl) _ rfl rfl) rfl rfl ?_
  intro t_ k_;simp only [sI,sZ,sS] at k_;subst k_
  refine Qe (.string a1) rfl (fun z_=>Qo (.tmp 1) (.inl rfl) _ rfl) rfl rfl ?_
  intro t_ k_;simp only [sI,sZ,sS] at k_;subst k_
  refine QV rfl (fun Q'_ hQ_=>?_)
  refine Jr 64 #[.string s0,Ii s1,.string a1] (by go_simp) rfl ((QN.c k s0 s1 a1 t1 t2 t3 _ A23.out).mono ?_)
  rintro e_ w27 ⟨rfl,hb_⟩
  replace BKr:=hid (BKr.out.below hb_ BKr.out.lt)
  replace HL:=hid (HL.out.below hb_ HL.out.size)
  clear hb_
  refine ⟨_,rfl,?_⟩
  refine hQ_ _ _ (fun h_=>absurd h_ (by decide)) ?_
  clear hQ_ Q'_
  simp only [Act.put,sI,sZ,sS]
  refine QV rfl (fun Q'_ hQ_=>?_)
  refine Jr 44 #[Pg g 0,.agg #[Ii t1,Ii t2,Ii t3]] (by go_simp) rfl ((Ql.c s0 s1 s2 s3 s4 s5 s6 s7 s8 s9 s10 s11 s12 s13 s14 s15 s16 t1 t2 t3 LN_s3.out t4 t5 t6 t7 t8 t9 t10 t11 t12 t13 t14 t15 t16 t17 t18 t19 t20 t21 g _ BKr.out A24.out).mono ?_)
  rintro e_ w29 ⟨rfl,ln_t8,hB_,hx_⟩
  have LN_t8:=hid ln_t8
  clear ln_t8
  replace HL:=hid (HL.out.bex hx_ HL.out.size (.inl rfl))
  replace BKr:=hid hB_
  clear hx_ hB_
  refine ⟨_,rfl,?_⟩
  refine hQ_ _ _ (fun h_=>absurd h_ (by decide)) ?_
  clear hQ_ Q'_
  simp only [Act.put,sI,sZ,sS]
  refine JH ?_
  clear WR64 WR32 WR8 WRU
  go_wp2_with fail
  (try simp only [Act.put,sI,sZ,sS])
  (first|go_end0|refine bodyPost_ret (results_none rfl _ _ _) rfl ?_)
  exact ⟨by first|rfl|(simp;done),LN_t8.out,(by exact BKr.out),HL.out⟩
 ·
  rw [if_neg c22] at H
  have c22b0:(s2==0)=false:=beq_eq_false_iff_ne.mpr c22
  have c22b1:(s2 != 0)=true:=bne_iff_ne.mpr c22
  have hc22:=hid c22
  clear c22
  simp only [Option.some.injEq,Prod.mk.injEq] at H
  obtain ⟨rfl,rfl,rfl,rfl,rfl,rfl,rfl,rfl,rfl,rfl,rfl,rfl,rfl,rfl,rfl,rfl,rfl⟩:=H
  go_enter Tryz.func39,Tryz.ntmps39
  go_wp2_with (first
   |((with_reducible refine Qa (N:=6) rfl ?_);refine Qb (Pg g 2) (Qc 54 2 (Pg g 0) (Pg g 2) (Jt g) _ rfl rfl) rfl ?_)
   |((with_reducible refine Qa (N:=7) rfl ?_);refine Qb (Ii s2) (Qd Zk g (2) (Ii s2) ((yv [.string s0,Ii s1,Ii s2] (Value.int .i8) s3 [Ii s4,Ii s5,Ii s6,Ii s7,Ii s8,Ii s9,.bool s10,.bool s11,.bool s12,Ii s13,Ii s14,Ii s15,s16])) BKr.out ((QC (a:=3) rfl 2 (by decide)).trans rfl) _ rfl rfl) rfl ?_))
  (try simp only [Act.put,sI,sZ,sS])
  (first|go_end0|refine bodyPost_ret (results_none rfl _ _ _) rfl ?_)
  exact ⟨by first|rfl|(simp;done),LN_s3.out,(by exact BKr.out),HL.out⟩
def Qt.f(k:Nat)(s0:ByteArray)(s1 s2:Int)(s3:List Int)(s4 s5 s6 s7 s8 s9:Int)(s10 s11 s12:Bool)(s13 s14 s15:Int)(s16:Value)(a1:List ByteArray):Option (Int×ByteArray×Int×Int×(List Int)×Int×Int×Int×Int×Int×Int×Bool×Bool×Bool×Int×Int×Int×Value):=if s2=0 then ((QR.f k s0 s1 a1).bind fun bt1=>((Ql.f s0 s1 s2 s3 s4 s5 s6 s7 s8 s9 s10 s11 s12 s13 s14 s15 s16 bt1.1 bt1.2.1 bt1.2.2).bind fun bt4=>(some (bt4.1,bt4.2.1,bt4.2.2.1,bt4.2.2.2.1,bt4.2.2.2.2.1,bt4.2.2.2.2.2.1,bt4.2.2.2.2.2.2.1,bt4.2.2.2.2.2.2.2.1,bt4.2.2.2.2.2.2.2.2.1,bt4.2.2.2.2.2.2.2.2.2.1,bt4.2.2.2.2.2.2.2.2.2.2.1,bt4.2.2.2.2.2.2.2.2.2.2.2.1,bt4.2.2.2.2.2.2.2.2.2.2.2.2.1,bt4.2.2.2.2.2.2.2.2.2.2.2.2.2.1,bt4.2.2.2.2.2.2.2.2.2.2.2.2.2.2.1,bt4.2.2.2.2.2.2.2.2.2.2.2.2.2.2.2.1,bt4.2.2.2.2.2.2.2.2.2.2.2.2.2.2.2.2.1,bt4.2.2.2.2.2.2.2.2.2.2.2.2.2.2.2.2.2)))) else (some ((-1),s0,s1,s2,s3,s4,s5,s6,s7,s8,s9,s10,s11,s12,s13,s14,s15,s16))
theorem Qt.c(k:Nat)(s0:ByteArray)(s1 s2:Int)(s3:List Int)(s4 s5 s6 s7 s8 s9:Int)(s10 s11 s12:Bool)(s13 s14 s15:Int)(s16 v1_:Value)(a1:List ByteArray)(hls3:s3.length=64)(r1:Int)(q0:ByteArray)(q1 q2:Int)(q3:List Int)(q4 q5 q6 q7 q8 q9:Int)(q10 q11 q12:Bool)(q13 q14 q15:Int)(q16:Value)(g:Nat)(w:World)(hB:Blk w g 54 (yv [.string s0,Ii s1,Ii s2] (Value.int .i8) s3 [Ii s4,Ii s5,Ii s6,Ii s7,Ii s8,Ii s9,.bool s10,.bool s11,.bool s12,Ii s13,Ii s14,Ii s15,s16]))(hs1:SlT w 9 v1_ (a1.map Value.string))(h:Qt.f k s0 s1 s2 s3 s4 s5 s6 s7 s8 s9 s10 s11 s12 s13 s14 s15 s16 a1=some (r1,q0,q1,q2,q3,q4,q5,q6,q7,q8,q9,q10,q11,q12,q13,q14,q15,q16)):
 Calls Tryz.prog 37 #[Pg g 0,v1_] w fun e w'=>e=.returned (Ii r1)∧q3.length=64∧Blk w' g 54 (yv [.string q0,Ii q1,Ii q2] (Value.int .i8) q3 [Ii q4,Ii q5,Ii q6,Ii q7,Ii q8,Ii q9,.bool q10,.bool q11,.bool q12,Ii q13,Ii q14,Ii q15,q16])∧Bex g w.heap.size w w':=by
 have LN_s3:=hid hls3
 clear hls3
 have BKr:=hid hB
 clear hB
 have HL:=hid (Bex.refl g w.heap.size w)
 have BK0:=BKr
 have SP1:=hid hs1
 clear hs1
 have H:(if s2=0 then ((QR.f k s0 s1 a1).bind fun bt1=>((Ql.f s0 s1 s2 s3 s4 s5 s6 s7 s8 s9 s10 s11 s12 s13 s14 s15 s16 bt1.1 bt1.2.1 bt1.2.2).bind fun bt4=>(some (bt4.1,bt4.2.1,bt4.2.2.1,bt4.2.2.2.1,bt4.2.2.2.2.1,bt4.2.2.2.2.2.1,bt4.2.2.2.2.2.2.1,bt4.2.2.2.2.2.2.2.1,bt4.2.2.2.2.2.2.2.2.1,bt4.2.2.2.2.2.2.2.2.2.1,bt4.2.2.2.2.2.2.2.2.2.2.1,bt4.2.2.2.2.2.2.2.2.2.2.2.1,bt4.2.2.2.2.2.2.2.2.2.2.2.2.1,bt4.2.2.2.2.2.2.2.2.2.2.2.2.2.1,bt4.2.2.2.2.2.2.2.2.2.2.2.2.2.2.1,bt4.2.2.2.2.2.2.2.2.2.2.2.2.2.2.2.1,bt4.2.2.2.2.2.2.2.2.2.2.2.2.2.2.2.2.1,bt4.2.2.2.2.2.2.2.2.2.2.2.2.2.2.2.2.2)))) else (some ((-1),s0,s1,s2,s3,s4,s5,s6,s7,s8,s9,s10,s11,s12,s13,s14,s15,s16)))=some (r1,q0,q1,q2,q3,q4,q5,q6,q7,q8,q9,q10,q11,q12,q13,q14,q15,q16):=h
 clear h
 by_cases c22:s2=0
 ·
  rw [if_pos c22] at H
  have c22b0:(s2==0)=true:=beq_iff_eq.mpr c22
  have c22b1:(s2 != 0)=false:=bne_eq_false_iff_eq.mpr c22
  have hc22:=hid c22
  clear c22
  replace H:=Ia H
  obtain ⟨⟨t1,t2,t3⟩,A23_,H⟩:=H
  dsimp only at H
  have A23:=hid A23_
  clear A23_
  replace H:=Ia H
  obtain ⟨⟨t4,t5,t6,t7,t8,t9,t10,t11,t12,t13,t14,t15,t16,t17,t18,t19,t20,t21⟩,A24_,H⟩:=H
  dsimp only at H
  have A24:=hid A24_
  clear A24_
  simp only [Option.some.injEq,Prod.mk.injEq] at H
  obtain ⟨rfl,rfl,rfl,rfl,rfl,rfl,rfl,rfl,rfl,rfl,rfl,rfl,rfl,rfl,rfl,rfl,rfl,rfl⟩:=H
  go_enter Tryz.func37,Tryz.ntmps37
  go_wp2_with (first
   |((with_reducible refine Qa (N:=7) rfl ?_);refine Qb (Pg g 2) (Qc 54 2 (Pg g 0) (Pg g 2) (Jt g) _ rfl rfl) rfl ?_)
   |((with_reducible refine Qa (N:=8) rfl ?_);refine Qb (Ii s2) (Qd Zk g (2) (Ii s2) ((yv [.string s0,Ii s1,Ii s2] (Value.int .i8) s3 [Ii s4,Ii s5,Ii s6,Ii s7,Ii s8,Ii s9,.bool s10,.bool s11,.bool s12,Ii s13,Ii s14,Ii s15,s16])) BKr.out ((QC (a:=3) rfl 2 (by decide)).trans rfl) _ rfl rfl) rfl ?_))
  (try simp only [Act.put,sI,sZ,sS])
  have WR64:=Zs
  have WR32:=ZA
  have WR8:=Ko
  have WRU:=ZY
  refine QL (fun z_=>Bex g w.heap.size w z_∧Blk z_ g 54 (yv [.string s0,Ii s1,Ii s2] (Value.int .i8) s3 [Ii s4,Ii s5,Ii s6,Ii s7,Ii s8,Ii s9,.bool s10,.bool s11,.bool s12,Ii s13,Ii s14,Ii s15,s16])∧True) [10,11] [(0,2),(1,2),(2,2),(3,2),(4,1),(5,2),(6,2),(7,2),(8,1),(9,2),(10,0),(11,0),(12,2)] (by kernel_rfl) (by kernel_rfl) (by kernel_rfl) rfl ?_
  intro w25 hb_
  replace BKr:=hid (BKr.out.below hb_ BKr.out.lt)
  replace HL:=hid (HL.out.below hb_ HL.out.size)
  clear hb_
  refine Qe (Pg g 0) rfl (fun z_=>Qo (.tmp 0) (.inl rfl) _ rfl) rfl rfl ?_
  intro t_ k_;simp only [sI,sZ,sS] at k_;subst k_
  refine Qe (Pg g 0) rfl (fun z_=>Qo (.tmp 0) (.inl rfl) _ rfl) rfl rfl ?_
  intro t_ k_;simp only [sI,sZ,sS] at k_;subst k_
  refine Qe (Pg g 0) rfl (fun z_=>by go_simp <;> (unfold wrap64;omega)) rfl rfl ?_
  intro t_ k_;simp only [sI,sZ,sS] at k_;subst k_
  refine Qe (Pg g 0) rfl (fun z_=>Qc 54 0 (Pg g 0) (Pg g 0) (KF g) _ rfl rfl) rfl rfl ?_
  intro t_ k_;simp only [sI,sZ,sS] at k_;subst k_
  refine QA (.string s0) ⟨HL.out,BKr.out,trivial⟩ rfl (fun z_ hS_=>Qd sT9 g (0) (.string s0) ((yv [.string s0,Ii s1,Ii s2] (Value.int .i8) s3 [Ii s4,Ii s5,Ii s6,Ii s7,Ii s8,Ii s9,.bool s10,.bool s11,.bool s12,Ii s13,Ii s14,Ii s15,s16])) hS_.2.1 ((QC (a:=3) rfl 0 (by decide)).trans rfl) _ rfl rfl) rfl rfl ?_
  intro t_ k_;simp only [sI,sZ,sS] at k_;subst k_
  refine Qe (Pg g 0) rfl (fun z_=>Qo (.tmp 0) (.inl rfl) _ rfl) rfl rfl ?_
  intro t_ k_;simp only [sI,sZ,sS] at k_;subst k_
  refine Qe (Pg g 0) rfl (fun z_=>by go_simp <;> (unfold wrap64;omega)) rfl rfl ?_
  intro t_ k_;simp only [sI,sZ,sS] at k_;subst k_
  refine Qe (Pg g 1) rfl (fun z_=>Qc 54 1 (Pg g 0) (Pg g 1) (JT g) _ rfl rfl) rfl rfl ?_
  intro t_ k_;simp only [sI,sZ,sS] at k_;subst k_
  refine QA (Ii s1) ⟨HL.out,BKr.out,trivial⟩ rfl (fun z_ hS_=>Qd sT3 g (1) (Ii s1) ((yv [.string s0,Ii s1,Ii s2] (Value.int .i8) s3 [Ii s4,Ii s5,Ii s6,Ii s7,Ii s8,Ii s9,.bool s10,.bool s11,.bool s12,Ii s13,Ii s14,Ii s15,s16])) hS_.2.1 ((QC (a:=3) rfl 1 (by decide)).trans rfl) _ rfl rfl) rfl rfl ?_
  intro t_ k_;simp only [sI,sZ,sS] at k_;subst k_
  refine Qe (v1_) rfl (fun z_=>Qo (.tmp 1) (.inl rfl) _ rfl) rfl rfl ?_
  intro t_ k_;simp only [sI,sZ,sS] at k_;subst k_
  refine QV rfl (fun Q'_ hQ_=>?_)
  refine Jr 63 #[.string s0,Ii s1,v1_] (by go_simp) rfl ((QR.c k s0 s1 (v1_) a1 t1 t2 t3 _ (SP1.out.bex HL.out (Nat.le_refl _) BK0.out (by decide)).sl A23.out).mono ?_)
  rintro e_ w27 ⟨rfl,hb_⟩
  replace BKr:=hid (BKr.out.below hb_ BKr.out.lt)
  replace HL:=hid (HL.out.below hb_ HL.out.size)
  clear hb_
  refine ⟨_,rfl,?_⟩
  refine hQ_ _ _ (fun h_=>absurd h_ (by decide)) ?_
  clear hQ_ Q'_
  simp only [Act.put,sI,sZ,sS]
  refine QV rfl (fun Q'_ hQ_=>?_)
  refine Jr 44 #[Pg g 0,.agg #[Ii t1,Ii t2,Ii t3]] (by go_simp) rfl ((Ql.c s0 s1 s2 s3 s4 s5 s6 s7 s8 s9 s10 s11 s12 s13 s14 s15 s16 t1 t2 t3 LN_s3.out t4 t5 t6 t7 t8 t9 t10 t11 t12 t13 t14 t15 t16 t17 t18 t19 t20 t21 g _ BKr.out A24.out).mono ?_)
  rintro e_ w29 ⟨rfl,ln_t8,hB_,hx_⟩
  have LN_t8:=hid ln_t8
  clear ln_t8
  replace HL:=hid (HL.out.bex hx_ HL.out.size (.inl rfl))
  replace BKr:=hid hB_
  clear hx_ hB_
  refine ⟨_,rfl,?_⟩
  refine hQ_ _ _ (fun h_=>absurd h_ (by decide)) ?_
  clear hQ_ Q'_
  simp only [Act.put,sI,sZ,sS]
  refine Qe (Ii t4) rfl (fun z_=>Qo (.tmp 21) (.inr rfl) _ rfl) rfl rfl ?_
  intro t_ k_;simp only [sI,sZ,sS] at k_;subst k_
  refine JH ?_
  clear WR64 WR32 WR8 WRU
  go_wp2_with fail
  (try simp only [Act.put,sI,sZ,sS])
  go_ret
  exact ⟨by first|rfl|(simp;done)|(simp [*];done),LN_t8.out,(by exact BKr.out),HL.out⟩
 ·
  rw [if_neg c22] at H
  have c22b0:(s2==0)=false:=beq_eq_false_iff_ne.mpr c22
  have c22b1:(s2 != 0)=true:=bne_iff_ne.mpr c22
  have hc22:=hid c22
  clear c22
  simp only [Option.some.injEq,Prod.mk.injEq] at H
  obtain ⟨rfl,rfl,rfl,rfl,rfl,rfl,rfl,rfl,rfl,rfl,rfl,rfl,rfl,rfl,rfl,rfl,rfl,rfl⟩:=H
  go_enter Tryz.func37,Tryz.ntmps37
  go_wp2_with (first
   |((with_reducible refine Qa (N:=7) rfl ?_);refine Qb (Pg g 2) (Qc 54 2 (Pg g 0) (Pg g 2) (Jt g) _ rfl rfl) rfl ?_)
   |((with_reducible refine Qa (N:=8) rfl ?_);refine Qb (Ii s2) (Qd Zk g (2) (Ii s2) ((yv [.string s0,Ii s1,Ii s2] (Value.int .i8) s3 [Ii s4,Ii s5,Ii s6,Ii s7,Ii s8,Ii s9,.bool s10,.bool s11,.bool s12,Ii s13,Ii s14,Ii s15,s16])) BKr.out ((QC (a:=3) rfl 2 (by decide)).trans rfl) _ rfl rfl) rfl ?_))
  (try simp only [Act.put,sI,sZ,sS])
  go_ret
  exact ⟨by first|rfl|(simp;done)|(simp [*];done),LN_s3.out,(by exact BKr.out),HL.out⟩
def Jf.f(k:Nat)(s0:ByteArray)(s1 s2:Int)(s3:List Int)(s4 s5 s6 s7 s8 s9:Int)(s10 s11 s12:Bool)(s13 s14 s15:Int)(s16:Value)(a1 a2:Int):Option (Int×ByteArray×Int×Int×(List Int)×Int×Int×Int×Int×Int×Int×Bool×Bool×Bool×Int×Int×Int×Value):=if s2=0 then ((Qw.f k s0 s1 a1 a2).bind fun bt1=>((Ql.f s0 s1 s2 s3 s4 s5 s6 s7 s8 s9 s10 s11 s12 s13 s14 s15 s16 bt1.1 bt1.2.1 bt1.2.2).bind fun bt4=>(some (bt4.1,bt4.2.1,bt4.2.2.1,bt4.2.2.2.1,bt4.2.2.2.2.1,bt4.2.2.2.2.2.1,bt4.2.2.2.2.2.2.1,bt4.2.2.2.2.2.2.2.1,bt4.2.2.2.2.2.2.2.2.1,bt4.2.2.2.2.2.2.2.2.2.1,bt4.2.2.2.2.2.2.2.2.2.2.1,bt4.2.2.2.2.2.2.2.2.2.2.2.1,bt4.2.2.2.2.2.2.2.2.2.2.2.2.1,bt4.2.2.2.2.2.2.2.2.2.2.2.2.2.1,bt4.2.2.2.2.2.2.2.2.2.2.2.2.2.2.1,bt4.2.2.2.2.2.2.2.2.2.2.2.2.2.2.2.1,bt4.2.2.2.2.2.2.2.2.2.2.2.2.2.2.2.2.1,bt4.2.2.2.2.2.2.2.2.2.2.2.2.2.2.2.2.2)))) else (some (0,s0,s1,s2,s3,s4,s5,s6,s7,s8,s9,s10,s11,s12,s13,s14,s15,s16))
theorem Jf.c(k:Nat)(s0:ByteArray)(s1 s2:Int)(s3:List Int)(s4 s5 s6 s7 s8 s9:Int)(s10 s11 s12:Bool)(s13 s14 s15:Int)(s16:Value)(a1 a2:Int)(hls3:s3.length=64)(r1:Int)(q0:ByteArray)(q1 q2:Int)(q3:List Int)(q4 q5 q6 q7 q8 q9:Int)(q10 q11 q12:Bool)(q13 q14 q15:Int)(q16:Value)(g:Nat)(w:World)(hB:Blk w g 54 (yv [.string s0,Ii s1,Ii s2] (Value.int .i8) s3 [Ii s4,Ii s5,Ii s6,Ii s7,Ii s8,Ii s9,.bool s10,.bool s11,.bool s12,Ii s13,Ii s14,Ii s15,s16]))(h:Jf.f k s0 s1 s2 s3 s4 s5 s6 s7 s8 s9 s10 s11 s12 s13 s14 s15 s16 a1 a2=some (r1,q0,q1,q2,q3,q4,q5,q6,q7,q8,q9,q10,q11,q12,q13,q14,q15,q16)):
 Calls Tryz.prog 40 #[Pg g 0,Ii a1,Ii a2] w fun e w'=>e=.returned (Ii r1)∧q3.length=64∧Blk w' g 54 (yv [.string q0,Ii q1,Ii q2] (Value.int .i8) q3 [Ii q4,Ii q5,Ii q6,Ii q7,Ii q8,Ii q9,.bool q10,.bool q11,.bool q12,Ii q13,Ii q14,Ii q15,q16])∧Bex g w.heap.size w w':=by
 have LN_s3:=hid hls3
 clear hls3
 have BKr:=hid hB
 clear hB
 have HL:=hid (Bex.refl g w.heap.size w)
 have H:(if s2=0 then ((Qw.f k s0 s1 a1 a2).bind fun bt1=>((Ql.f s0 s1 s2 s3 s4 s5 s6 s7 s8 s9 s10 s11 s12 s13 s14 s15 s16 bt1.1 bt1.2.1 bt1.2.2).bind fun bt4=>(some (bt4.1,bt4.2.1,bt4.2.2.1,bt4.2.2.2.1,bt4.2.2.2.2.1,bt4.2.2.2.2.2.1,bt4.2.2.2.2.2.2.1,bt4.2.2.2.2.2.2.2.1,bt4.2.2.2.2.2.2.2.2.1,bt4.2.2.2.2.2.2.2.2.2.1,bt4.2.2.2.2.2.2.2.2.2.2.1,bt4.2.2.2.2.2.2.2.2.2.2.2.1,bt4.2.2.2.2.2.2.2.2.2.2.2.2.1,bt4.2.2.2.2.2.2.2.2.2.2.2.2.2.1,bt4.2.2.2.2.2.2.2.2.2.2.2.2.2.2.1,bt4.2.2.2.2.2.2.2.2.2.2.2.2.2.2.2.1,bt4.2.2.2.2.2.2.2.2.2.2.2.2.2.2.2.2.1,bt4.2.2.2.2.2.2.2.2.2.2.2.2.2.2.2.2.2)))) else (some (0,s0,s1,s2,s3,s4,s5,s6,s7,s8,s9,s10,s11,s12,s13,s14,s15,s16)))=some (r1,q0,q1,q2,q3,q4,q5,q6,q7,q8,q9,q10,q11,q12,q13,q14,q15,q16):=h
 clear h
 by_cases c22:s2=0
 ·
  rw [if_pos c22] at H
  have c22b0:(s2==0)=true:=beq_iff_eq.mpr c22
  have c22b1:(s2 != 0)=false:=bne_eq_false_iff_eq.mpr c22
  have hc22:=hid c22
  clear c22
  replace H:=Ia H
  obtain ⟨⟨t1,t2,t3⟩,A23_,H⟩:=H
  dsimp only at H
  have A23:=hid A23_
  clear A23_
  replace H:=Ia H
  obtain ⟨⟨t4,t5,t6,t7,t8,t9,t10,t11,t12,t13,t14,t15,t16,t17,t18,t19,t20,t21⟩,A24_,H⟩:=H
  dsimp only at H
  have A24:=hid A24_
  clear A24_
  simp only [Option.some.injEq,Prod.mk.injEq] at H
  obtain ⟨rfl,rfl,rfl,rfl,rfl,rfl,rfl,rfl,rfl,rfl,rfl,rfl,rfl,rfl,rfl,rfl,rfl,rfl⟩:=H
  go_enter Tryz.func40,Tryz.ntmps40
  go_wp2_with (first
   |((with_reducible refine Qa (N:=9) rfl ?_);refine Qb (Pg g 2) (Qc 54 2 (Pg g 0) (Pg g 2) (Jt g) _ rfl rfl) rfl ?_)
   |((with_reducible refine Qa (N:=10) rfl ?_);refine Qb (Ii s2) (Qd Zk g (2) (Ii s2) ((yv [.string s0,Ii s1,Ii s2] (Value.int .i8) s3 [Ii s4,Ii s5,Ii s6,Ii s7,Ii s8,Ii s9,.bool s10,.bool s11,.bool s12,Ii s13,Ii s14,Ii s15,s16])) BKr.out ((QC (a:=3) rfl 2 (by decide)).trans rfl) _ rfl rfl) rfl ?_))
  (try simp only [Act.put,sI,sZ,sS])
  have WR64:=Zs
  have WR32:=ZA
  have WR8:=Ko
  have WRU:=ZY
  refine QL (fun z_=>Bex g w.heap.size w z_∧Blk z_ g 54 (yv [.string s0,Ii s1,Ii s2] (Value.int .i8) s3 [Ii s4,Ii s5,Ii s6,Ii s7,Ii s8,Ii s9,.bool s10,.bool s11,.bool s12,Ii s13,Ii s14,Ii s15,s16])∧True) [11,12] [(0,2),(1,2),(2,2),(3,2),(4,1),(5,2),(6,2),(7,2),(8,1),(9,2),(10,2),(11,0),(12,0),(13,2)] (by kernel_rfl) (by kernel_rfl) (by kernel_rfl) rfl ?_
  intro w25 hb_
  replace BKr:=hid (BKr.out.below hb_ BKr.out.lt)
  replace HL:=hid (HL.out.below hb_ HL.out.size)
  clear hb_
  refine Qe (Pg g 0) rfl (fun z_=>Qo (.tmp 0) (.inl rfl) _ rfl) rfl rfl ?_
  intro t_ k_;simp only [sI,sZ,sS] at k_;subst k_
  refine Qe (Pg g 0) rfl (fun z_=>Qo (.tmp 0) (.inl rfl) _ rfl) rfl rfl ?_
  intro t_ k_;simp only [sI,sZ,sS] at k_;subst k_
  refine Qe (Pg g 0) rfl (fun z_=>by go_simp <;> (unfold wrap64;omega)) rfl rfl ?_
  intro t_ k_;simp only [sI,sZ,sS] at k_;subst k_
  refine Qe (Pg g 0) rfl (fun z_=>Qc 54 0 (Pg g 0) (Pg g 0) (KF g) _ rfl rfl) rfl rfl ?_
  intro t_ k_;simp only [sI,sZ,sS] at k_;subst k_
  refine QA (.string s0) ⟨HL.out,BKr.out,trivial⟩ rfl (fun z_ hS_=>Qd sT9 g (0) (.string s0) ((yv [.string s0,Ii s1,Ii s2] (Value.int .i8) s3 [Ii s4,Ii s5,Ii s6,Ii s7,Ii s8,Ii s9,.bool s10,.bool s11,.bool s12,Ii s13,Ii s14,Ii s15,s16])) hS_.2.1 ((QC (a:=3) rfl 0 (by decide)).trans rfl) _ rfl rfl) rfl rfl ?_
  intro t_ k_;simp only [sI,sZ,sS] at k_;subst k_
  refine Qe (Pg g 0) rfl (fun z_=>Qo (.tmp 0) (.inl rfl) _ rfl) rfl rfl ?_
  intro t_ k_;simp only [sI,sZ,sS] at k_;subst k_
  refine Qe (Pg g 0) rfl (fun z_=>by go_simp <;> (unfold wrap64;omega)) rfl rfl ?_
  intro t_ k_;simp only [sI,sZ,sS] at k_;subst k_
  refine Qe (Pg g 1) rfl (fun z_=>Qc 54 1 (Pg g 0) (Pg g 1) (JT g) _ rfl rfl) rfl rfl ?_
  intro t_ k_;simp only [sI,sZ,sS] at k_;subst k_
  refine QA (Ii s1) ⟨HL.out,BKr.out,trivial⟩ rfl (fun z_ hS_=>Qd sT3 g (1) (Ii s1) ((yv [.string s0,Ii s1,Ii s2] (Value.int .i8) s3 [Ii s4,Ii s5,Ii s6,Ii s7,Ii s8,Ii s9,.bool s10,.bool s11,.bool s12,Ii s13,Ii s14,Ii s15,s16])) hS_.2.1 ((QC (a:=3) rfl 1 (by decide)).trans rfl) _ rfl rfl) rfl rfl ?_
  intro t_ k_;simp only [sI,sZ,sS] at k_;subst k_
  refine Qe (Ii a1) rfl (fun z_=>Qo (.tmp 1) (.inl rfl) _ rfl) rfl rfl ?_
  intro t_ k_;simp only [sI,sZ,sS] at k_;subst k_
  refine Qe (Ii a2) rfl (fun z_=>Qo (.tmp 2) (.inl rfl) _ rfl) rfl rfl ?_
  intro t_ k_;simp only [sI,sZ,sS] at k_;subst k_
  refine QV rfl (fun Q'_ hQ_=>?_)
  refine Jr 65 #[.string s0,Ii s1,Ii a1,Ii a2] (by go_simp) rfl ((Qw.c k s0 s1 a1 a2 t1 t2 t3 _ A23.out).mono ?_)
  rintro e_ w27 ⟨rfl,hb_⟩
  replace BKr:=hid (BKr.out.below hb_ BKr.out.lt)
  replace HL:=hid (HL.out.below hb_ HL.out.size)
  clear hb_
  refine ⟨_,rfl,?_⟩
  refine hQ_ _ _ (fun h_=>absurd h_ (by decide)) ?_
  clear hQ_ Q'_
  simp only [Act.put,sI,sZ,sS]
  refine QV rfl (fun Q'_ hQ_=>?_)
  refine Jr 44 #[Pg g 0,.agg #[Ii t1,Ii t2,Ii t3]] (by go_simp) rfl ((Ql.c s0 s1 s2 s3 s4 s5 s6 s7 s8 s9 s10 s11 s12 s13 s14 s15 s16 t1 t2 t3 LN_s3.out t4 t5 t6 t7 t8 t9 t10 t11 t12 t13 t14 t15 t16 t17 t18 t19 t20 t21 g _ BKr.out A24.out).mono ?_)
  rintro e_ w29 ⟨rfl,ln_t8,hB_,hx_⟩
  have LN_t8:=hid ln_t8
  clear ln_t8
  replace HL:=hid (HL.out.bex hx_ HL.out.size (.inl rfl))
  replace BKr:=hid hB_
  clear hx_ hB_
  refine ⟨_,rfl,?_⟩
  refine hQ_ _ _ (fun h_=>absurd h_ (by decide)) ?_
  clear hQ_ Q'_
  simp only [Act.put,sI,sZ,sS]
  refine Qe (Ii t4) rfl (fun z_=>Qo (.tmp 24) (.inr rfl) _ rfl) rfl rfl ?_
  intro t_ k_;simp only [sI,sZ,sS] at k_;subst k_
  refine JH ?_
  clear WR64 WR32 WR8 WRU
  go_wp2_with fail
  (try simp only [Act.put,sI,sZ,sS])
  go_ret
  exact ⟨by first|rfl|(simp;done)|(simp [*];done),LN_t8.out,(by exact BKr.out),HL.out⟩
 ·
  rw [if_neg c22] at H
  have c22b0:(s2==0)=false:=beq_eq_false_iff_ne.mpr c22
  have c22b1:(s2 != 0)=true:=bne_iff_ne.mpr c22
  have hc22:=hid c22
  clear c22
  simp only [Option.some.injEq,Prod.mk.injEq] at H
  obtain ⟨rfl,rfl,rfl,rfl,rfl,rfl,rfl,rfl,rfl,rfl,rfl,rfl,rfl,rfl,rfl,rfl,rfl,rfl⟩:=H
  go_enter Tryz.func40,Tryz.ntmps40
  go_wp2_with (first
   |((with_reducible refine Qa (N:=9) rfl ?_);refine Qb (Pg g 2) (Qc 54 2 (Pg g 0) (Pg g 2) (Jt g) _ rfl rfl) rfl ?_)
   |((with_reducible refine Qa (N:=10) rfl ?_);refine Qb (Ii s2) (Qd Zk g (2) (Ii s2) ((yv [.string s0,Ii s1,Ii s2] (Value.int .i8) s3 [Ii s4,Ii s5,Ii s6,Ii s7,Ii s8,Ii s9,.bool s10,.bool s11,.bool s12,Ii s13,Ii s14,Ii s15,s16])) BKr.out ((QC (a:=3) rfl 2 (by decide)).trans rfl) _ rfl rfl) rfl ?_))
  (try simp only [Act.put,sI,sZ,sS])
  go_ret
  exact ⟨by first|rfl|(simp;done)|(simp [*];done),LN_s3.out,(by exact BKr.out),HL.out⟩
def QT.f(k:Nat)(s0:ByteArray)(s1 s2:Int)(s3:List Int)(s4 s5 s6 s7 s8 s9:Int)(s10 s11 s12:Bool)(s13 s14 s15:Int)(s16:Value)(a1:Int):Option (ByteArray×Int×Int×(List Int)×Int×Int×Int×Int×Int×Int×Bool×Bool×Bool×Int×Int×Int×Value):=if s2=0 then ((ZH.f s0 s1).bind fun bt1=>(if a1=48 then ((QJ.f k bt1.1).bind fun bt6=>(if bt6.2.2=2 then (some (s0,wrap64 (s1+bt6.2.1),bt6.2.2,s3,s4,s5,s6,s7,s8,s9,s10,s11,s12,s13,s14,s15,s16)) else (if bt1.2.2.2=0 then (if bt6.2.2=0 then ((Ql.f s0 s1 s2 bt6.1 s4 s5 s6 s7 s8 s9 s10 s11 s12 s13 s14 s15 s16 bt1.2.1 bt1.2.2.1 bt1.2.2.2).bind fun bt10=>(some (bt10.2.1,bt10.2.2.1,bt10.2.2.2.1,bt10.2.2.2.2.1,bt10.2.2.2.2.2.1,bt10.2.2.2.2.2.2.1,bt10.2.2.2.2.2.2.2.1,bt10.2.2.2.2.2.2.2.2.1,bt10.2.2.2.2.2.2.2.2.2.1,bt10.2.2.2.2.2.2.2.2.2.2.1,bt10.2.2.2.2.2.2.2.2.2.2.2.1,bt10.2.2.2.2.2.2.2.2.2.2.2.2.1,bt10.2.2.2.2.2.2.2.2.2.2.2.2.2.1,bt10.2.2.2.2.2.2.2.2.2.2.2.2.2.2.1,bt10.2.2.2.2.2.2.2.2.2.2.2.2.2.2.2.1,bt10.2.2.2.2.2.2.2.2.2.2.2.2.2.2.2.2.1,bt10.2.2.2.2.2.2.2.2.2.2.2.2.2.2.2.2.2))) else (some (s0,wrap64 (s1+bt6.2.1),2,s3,s4,s5,s6,s7,s8,s9,s10,s11,s12,s13,s14,s15,s16))) else ((Ql.f s0 s1 s2 s3 s4 s5 s6 s7 s8 s9 s10 s11 s12 s13 s14 s15 s16 bt1.2.1 bt1.2.2.1 bt1.2.2.2).bind fun bt28=>(some (bt28.2.1,bt28.2.2.1,bt28.2.2.2.1,bt28.2.2.2.2.1,bt28.2.2.2.2.2.1,bt28.2.2.2.2.2.2.1,bt28.2.2.2.2.2.2.2.1,bt28.2.2.2.2.2.2.2.2.1,bt28.2.2.2.2.2.2.2.2.2.1,bt28.2.2.2.2.2.2.2.2.2.2.1,bt28.2.2.2.2.2.2.2.2.2.2.2.1,bt28.2.2.2.2.2.2.2.2.2.2.2.2.1,bt28.2.2.2.2.2.2.2.2.2.2.2.2.2.1,bt28.2.2.2.2.2.2.2.2.2.2.2.2.2.2.1,bt28.2.2.2.2.2.2.2.2.2.2.2.2.2.2.2.1,bt28.2.2.2.2.2.2.2.2.2.2.2.2.2.2.2.2.1,bt28.2.2.2.2.2.2.2.2.2.2.2.2.2.2.2.2.2)))))) else (if a1=49 then ((QW.f k bt1.1).bind fun bt46=>(if bt46.2.2=2 then (some (s0,wrap64 (s1+bt46.2.1),bt46.2.2,s3,s4,s5,s6,s7,s8,s9,s10,s11,s12,s13,s14,s15,s16)) else (if bt1.2.2.2=0 then (if bt46.2.2=0 then ((Ql.f s0 s1 s2 bt46.1 s4 s5 s6 s7 s8 s9 s10 s11 s12 s13 s14 s15 s16 bt1.2.1 bt1.2.2.1 bt1.2.2.2).bind fun bt50=>(some (bt50.2.1,bt50.2.2.1,bt50.2.2.2.1,bt50.2.2.2.2.1,bt50.2.2.2.2.2.1,bt50.2.2.2.2.2.2.1,bt50.2.2.2.2.2.2.2.1,bt50.2.2.2.2.2.2.2.2.1,bt50.2.2.2.2.2.2.2.2.2.1,bt50.2.2.2.2.2.2.2.2.2.2.1,bt50.2.2.2.2.2.2.2.2.2.2.2.1,bt50.2.2.2.2.2.2.2.2.2.2.2.2.1,bt50.2.2.2.2.2.2.2.2.2.2.2.2.2.1,bt50.2.2.2.2.2.2.2.2.2.2.2.2.2.2.1,bt50.2.2.2.2.2.2.2.2.2.2.2.2.2.2.2.1,bt50.2.2.2.2.2.2.2.2.2.2.2.2.2.2.2.2.1,bt50.2.2.2.2.2.2.2.2.2.2.2.2.2.2.2.2.2))) else (some (s0,wrap64 (s1+bt46.2.1),2,s3,s4,s5,s6,s7,s8,s9,s10,s11,s12,s13,s14,s15,s16))) else ((Ql.f s0 s1 s2 s3 s4 s5 s6 s7 s8 s9 s10 s11 s12 s13 s14 s15 s16 bt1.2.1 bt1.2.2.1 bt1.2.2.2).bind fun bt68=>(some (bt68.2.1,bt68.2.2.1,bt68.2.2.2.1,bt68.2.2.2.2.1,bt68.2.2.2.2.2.1,bt68.2.2.2.2.2.2.1,bt68.2.2.2.2.2.2.2.1,bt68.2.2.2.2.2.2.2.2.1,bt68.2.2.2.2.2.2.2.2.2.1,bt68.2.2.2.2.2.2.2.2.2.2.1,bt68.2.2.2.2.2.2.2.2.2.2.2.1,bt68.2.2.2.2.2.2.2.2.2.2.2.2.1,bt68.2.2.2.2.2.2.2.2.2.2.2.2.2.1,bt68.2.2.2.2.2.2.2.2.2.2.2.2.2.2.1,bt68.2.2.2.2.2.2.2.2.2.2.2.2.2.2.2.1,bt68.2.2.2.2.2.2.2.2.2.2.2.2.2.2.2.2.1,bt68.2.2.2.2.2.2.2.2.2.2.2.2.2.2.2.2.2)))))) else (none)))) else (some (s0,s1,s2,s3,s4,s5,s6,s7,s8,s9,s10,s11,s12,s13,s14,s15,s16))
theorem QT.c(k:Nat)(s0:ByteArray)(s1 s2:Int)(s3:List Int)(s4 s5 s6 s7 s8 s9:Int)(s10 s11 s12:Bool)(s13 s14 s15:Int)(s16:Value)(a1:Int)(hls3:s3.length=64)(q0:ByteArray)(q1 q2:Int)(q3:List Int)(q4 q5 q6 q7 q8 q9:Int)(q10 q11 q12:Bool)(q13 q14 q15:Int)(q16:Value)(g:Nat)(w:World)(hB:Blk w g 54 (yv [.string s0,Ii s1,Ii s2] (Value.int .i8) s3 [Ii s4,Ii s5,Ii s6,Ii s7,Ii s8,Ii s9,.bool s10,.bool s11,.bool s12,Ii s13,Ii s14,Ii s15,s16]))(h:QT.f k s0 s1 s2 s3 s4 s5 s6 s7 s8 s9 s10 s11 s12 s13 s14 s15 s16 a1=some (q0,q1,q2,q3,q4,q5,q6,q7,q8,q9,q10,q11,q12,q13,q14,q15,q16)):
 Calls Tryz.prog 47 #[Pg g 0,(fnv a1)] w fun e w'=>e=.returned (.tuple #[])∧q3.length=64∧Blk w' g 54 (yv [.string q0,Ii q1,Ii q2] (Value.int .i8) q3 [Ii q4,Ii q5,Ii q6,Ii q7,Ii q8,Ii q9,.bool q10,.bool q11,.bool q12,Ii q13,Ii q14,Ii q15,q16])∧Bex g w.heap.size w w':=by
 have LN_s3:=hid hls3
 clear hls3
 have BKr:=hid hB
 clear hB
 have HL:=hid (Bex.refl g w.heap.size w)
 have H:(if s2=0 then ((ZH.f s0 s1).bind fun bt1=>(if a1=48 then ((QJ.f k bt1.1).bind fun bt6=>(if bt6.2.2=2 then (some (s0,wrap64 (s1+bt6.2.1),bt6.2.2,s3,s4,s5,s6,s7,s8,s9,s10,s11,s12,s13,s14,s15,s16)) else (if bt1.2.2.2=0 then (if bt6.2.2=0 then ((Ql.f s0 s1 s2 bt6.1 s4 s5 s6 s7 s8 s9 s10 s11 s12 s13 s14 s15 s16 bt1.2.1 bt1.2.2.1 bt1.2.2.2).bind fun bt10=>(some (bt10.2.1,bt10.2.2.1,bt10.2.2.2.1,bt10.2.2.2.2.1,bt10.2.2.2.2.2.1,bt10.2.2.2.2.2.2.1,bt10.2.2.2.2.2.2.2.1,bt10.2.2.2.2.2.2.2.2.1,bt10.2.2.2.2.2.2.2.2.2.1,bt10.2.2.2.2.2.2.2.2.2.2.1,bt10.2.2.2.2.2.2.2.2.2.2.2.1,bt10.2.2.2.2.2.2.2.2.2.2.2.2.1,bt10.2.2.2.2.2.2.2.2.2.2.2.2.2.1,bt10.2.2.2.2.2.2.2.2.2.2.2.2.2.2.1,bt10.2.2.2.2.2.2.2.2.2.2.2.2.2.2.2.1,bt10.2.2.2.2.2.2.2.2.2.2.2.2.2.2.2.2.1,bt10.2.2.2.2.2.2.2.2.2.2.2.2.2.2.2.2.2))) else (some (s0,wrap64 (s1+bt6.2.1),2,s3,s4,s5,s6,s7,s8,s9,s10,s11,s12,s13,s14,s15,s16))) else ((Ql.f s0 s1 s2 s3 s4 s5 s6 s7 s8 s9 s10 s11 s12 s13 s14 s15 s16 bt1.2.1 bt1.2.2.1 bt1.2.2.2).bind fun bt28=>(some (bt28.2.1,bt28.2.2.1,bt28.2.2.2.1,bt28.2.2.2.2.1,bt28.2.2.2.2.2.1,bt28.2.2.2.2.2.2.1,bt28.2.2.2.2.2.2.2.1,bt28.2.2.2.2.2.2.2.2.1,bt28.2.2.2.2.2.2.2.2.2.1,bt28.2.2.2.2.2.2.2.2.2.2.1,bt28.2.2.2.2.2.2.2.2.2.2.2.1,bt28.2.2.2.2.2.2.2.2.2.2.2.2.1,bt28.2.2.2.2.2.2.2.2.2.2.2.2.2.1,bt28.2.2.2.2.2.2.2.2.2.2.2.2.2.2.1,bt28.2.2.2.2.2.2.2.2.2.2.2.2.2.2.2.1,bt28.2.2.2.2.2.2.2.2.2.2.2.2.2.2.2.2.1,bt28.2.2.2.2.2.2.2.2.2.2.2.2.2.2.2.2.2)))))) else (if a1=49 then ((QW.f k bt1.1).bind fun bt46=>(if bt46.2.2=2 then (some (s0,wrap64 (s1+bt46.2.1),bt46.2.2,s3,s4,s5,s6,s7,s8,s9,s10,s11,s12,s13,s14,s15,s16)) else (if bt1.2.2.2=0 then (if bt46.2.2=0 then ((Ql.f s0 s1 s2 bt46.1 s4 s5 s6 s7 s8 s9 s10 s11 s12 s13 s14 s15 s16 bt1.2.1 bt1.2.2.1 bt1.2.2.2).bind fun bt50=>(some (bt50.2.1,bt50.2.2.1,bt50.2.2.2.1,bt50.2.2.2.2.1,bt50.2.2.2.2.2.1,bt50.2.2.2.2.2.2.1,bt50.2.2.2.2.2.2.2.1,bt50.2.2.2.2.2.2.2.2.1,bt50.2.2.2.2.2.2.2.2.2.1,bt50.2.2.2.2.2.2.2.2.2.2.1,bt50.2.2.2.2.2.2.2.2.2.2.2.1,bt50.2.2.2.2.2.2.2.2.2.2.2.2.1,bt50.2.2.2.2.2.2.2.2.2.2.2.2.2.1,bt50.2.2.2.2.2.2.2.2.2.2.2.2.2.2.1,bt50.2.2.2.2.2.2.2.2.2.2.2.2.2.2.2.1,bt50.2.2.2.2.2.2.2.2.2.2.2.2.2.2.2.2.1,bt50.2.2.2.2.2.2.2.2.2.2.2.2.2.2.2.2.2))) else (some (s0,wrap64 (s1+bt46.2.1),2,s3,s4,s5,s6,s7,s8,s9,s10,s11,s12,s13,s14,s15,s16))) else ((Ql.f s0 s1 s2 s3 s4 s5 s6 s7 s8 s9 s10 s11 s12 s13 s14 s15 s16 bt1.2.1 bt1.2.2.1 bt1.2.2.2).bind fun bt68=>(some (bt68.2.1,bt68.2.2.1,bt68.2.2.2.1,bt68.2.2.2.2.1,bt68.2.2.2.2.2.1,bt68.2.2.2.2.2.2.1,bt68.2.2.2.2.2.2.2.1,bt68.2.2.2.2.2.2.2.2.1,bt68.2.2.2.2.2.2.2.2.2.1,bt68.2.2.2.2.2.2.2.2.2.2.1,bt68.2.2.2.2.2.2.2.2.2.2.2.1,bt68.2.2.2.2.2.2.2.2.2.2.2.2.1,bt68.2.2.2.2.2.2.2.2.2.2.2.2.2.1,bt68.2.2.2.2.2.2.2.2.2.2.2.2.2.2.1,bt68.2.2.2.2.2.2.2.2.2.2.2.2.2.2.2.1,bt68.2.2.2.2.2.2.2.2.2.2.2.2.2.2.2.2.1,bt68.2.2.2.2.2.2.2.2.2.2.2.2.2.2.2.2.2)))))) else (none)))) else (some (s0,s1,s2,s3,s4,s5,s6,s7,s8,s9,s10,s11,s12,s13,s14,s15,s16)))=some (q0,q1,q2,q3,q4,q5,q6,q7,q8,q9,q10,q11,q12,q13,q14,q15,q16):=h
 clear h
 by_cases c86:s2=0
 ·
  rw [if_pos c86] at H
  have c86b0:(s2==0)=true:=beq_iff_eq.mpr c86
  have c86b1:(s2 != 0)=false:=bne_eq_false_iff_eq.mpr c86
  have hc86:=hid c86
  clear c86
  replace H:=Ia H
  obtain ⟨⟨t1,t2,t3,t4⟩,A87_,H⟩:=H
  dsimp only at H
  have A87:=hid A87_
  clear A87_
  by_cases c88:a1=48
  ·
   rw [if_pos c88] at H
   have c88b0:(a1==48)=true:=beq_iff_eq.mpr c88
   have c88b1:(a1 != 48)=false:=bne_eq_false_iff_eq.mpr c88
   have hc88:=hid c88
   clear c88
   have H':=hid H
   clear H
   go_enter Tryz.func47,Tryz.ntmps47
   go_wp2_with (first
    |((with_reducible refine Qa (N:=11) rfl ?_);refine Qb (Pg g 2) (Qc 54 2 (Pg g 0) (Pg g 2) (Jt g) _ rfl rfl) rfl ?_)
    |((with_reducible refine Qa (N:=12) rfl ?_);refine Qb (Ii s2) (Qd Zk g (2) (Ii s2) ((yv [.string s0,Ii s1,Ii s2] (Value.int .i8) s3 [Ii s4,Ii s5,Ii s6,Ii s7,Ii s8,Ii s9,.bool s10,.bool s11,.bool s12,Ii s13,Ii s14,Ii s15,s16])) BKr.out ((QC (a:=3) rfl 2 (by decide)).trans rfl) _ rfl rfl) rfl ?_))
   (try simp only [Act.put,sI,sZ,sS])
   have WR64:=Zs
   have WR32:=ZA
   have WR8:=Ko
   have WRU:=ZY
   apply vP (F:=fun gb5 z_=>(Bex g w.heap.size w z_)∧(Blk z_ g 54 (yv [.string s0,Ii s1,Ii s2] (Value.int .i8) s3 [Ii s4,Ii s5,Ii s6,Ii s7,Ii s8,Ii s9,.bool s10,.bool s11,.bool s12,Ii s13,Ii s14,Ii s15,s16]))∧(Blk z_ gb5 75 #[Ii t2,Ii t3,Ii t4])∧(w.heap.size≤gb5)∧(g≠gb5)∧(gb5≠g))
   ·
    refine qC (fun z_=>Bex g w.heap.size w z_∧Blk z_ g 54 (yv [.string s0,Ii s1,Ii s2] (Value.int .i8) s3 [Ii s4,Ii s5,Ii s6,Ii s7,Ii s8,Ii s9,.bool s10,.bool s11,.bool s12,Ii s13,Ii s14,Ii s15,s16])∧True) [8,14] (.pure 0 (.pure 1 (.pure 2 (.take 3 (.pure 4 (.pure 5 (.pure 6 (.take 7 (.f2 8 (.pure 9 (.pure 10 (.pure 11 (.act 12 (.pure 13 (.act 14 .nil)))))) 12 (.act 8 (.pure 9 (.pure 10 (.pure 11 (.pure 13 (.act 14 .nil))))))))))))))) (by kernel_rfl) (by kernel_rfl) (by kernel_rfl) rfl ?_
    intro w90 hb_
    replace BKr:=hid (BKr.out.below hb_ BKr.out.lt)
    replace HL:=hid (HL.out.below hb_ HL.out.size)
    clear hb_
    refine QK (Pg g 0) rfl (fun z_=>Qo (.tmp 0) (.inl rfl) _ rfl) rfl rfl ?_
    intro t_ k_;simp only [sI,sZ,sS] at k_;subst k_
    refine QK (Pg g 0) rfl (fun z_=>by go_simp <;> (unfold wrap64;omega)) rfl rfl ?_
    intro t_ k_;simp only [sI,sZ,sS] at k_;subst k_
    refine QK (Pg g 0) rfl (fun z_=>Qc 54 0 (Pg g 0) (Pg g 0) (KF g) _ rfl rfl) rfl rfl ?_
    intro t_ k_;simp only [sI,sZ,sS] at k_;subst k_
    refine VP (.string s0) ⟨HL.out,BKr.out,trivial⟩ rfl (fun z_ hS_=>Qd sT9 g (0) (.string s0) ((yv [.string s0,Ii s1,Ii s2] (Value.int .i8) s3 [Ii s4,Ii s5,Ii s6,Ii s7,Ii s8,Ii s9,.bool s10,.bool s11,.bool s12,Ii s13,Ii s14,Ii s15,s16])) hS_.2.1 ((QC (a:=3) rfl 0 (by decide)).trans rfl) _ rfl rfl) rfl rfl ?_
    intro t_ k_;simp only [sI,sZ,sS] at k_;subst k_
    refine QK (Pg g 0) rfl (fun z_=>Qo (.tmp 0) (.inl rfl) _ rfl) rfl rfl ?_
    intro t_ k_;simp only [sI,sZ,sS] at k_;subst k_
    refine QK (Pg g 0) rfl (fun z_=>by go_simp <;> (unfold wrap64;omega)) rfl rfl ?_
    intro t_ k_;simp only [sI,sZ,sS] at k_;subst k_
    refine QK (Pg g 1) rfl (fun z_=>Qc 54 1 (Pg g 0) (Pg g 1) (JT g) _ rfl rfl) rfl rfl ?_
    intro t_ k_;simp only [sI,sZ,sS] at k_;subst k_
    refine VP (Ii s1) ⟨HL.out,BKr.out,trivial⟩ rfl (fun z_ hS_=>Qd sT3 g (1) (Ii s1) ((yv [.string s0,Ii s1,Ii s2] (Value.int .i8) s3 [Ii s4,Ii s5,Ii s6,Ii s7,Ii s8,Ii s9,.bool s10,.bool s11,.bool s12,Ii s13,Ii s14,Ii s15,s16])) hS_.2.1 ((QC (a:=3) rfl 1 (by decide)).trans rfl) _ rfl rfl) rfl rfl ?_
    intro t_ k_;simp only [sI,sZ,sS] at k_;subst k_
    refine xF ?_ ?_
    ·
     refine JX rfl (fun Q'_ hQ_=>?_)
     refine Jr 69 #[.string s0,Ii s1] (by go_simp) rfl ((ZH.c s0 s1 t1 t2 t3 t4 _ A87.out).mono ?_)
     rintro e_ w92 ⟨rfl,hb_⟩
     replace BKr:=hid (BKr.out.below hb_ BKr.out.lt)
     replace HL:=hid (HL.out.below hb_ HL.out.size)
     clear hb_
     refine ⟨_,rfl,?_⟩
     refine hQ_ _ _ (fun h_=>absurd h_ (by decide)) ?_
     clear hQ_ Q'_
     simp only [Act.put,sI,sZ,sS]
     refine QK (.tuple #[.string t1,.agg #[Ii t2,Ii t3,Ii t4]]) rfl (fun z_=>Qo (.tmp 23) (.inl rfl) _ rfl) rfl rfl ?_
     intro t_ k_;simp only [sI,sZ,sS] at k_;subst k_
     refine QK (.string t1) rfl (fun z_=>by go_simp <;> (unfold wrap64;omega)) rfl rfl ?_
     intro t_ k_;simp only [sI,sZ,sS] at k_;subst k_
     refine QK (.agg #[Ii t2,Ii t3,Ii t4]) rfl (fun z_=>by go_simp <;> (unfold wrap64;omega)) rfl rfl ?_
     intro t_ k_;simp only [sI,sZ,sS] at k_;subst k_
     refine Zg ?_
     refine JX rfl (fun Q'_ hQ_=>?_)
     (with_reducible refine Qa (N:=5) rfl ?_)
     obtain ⟨gb5,hgb5⟩:∃ g_,w92.heap.size=g_:=⟨_,rfl⟩
     refine Qq Qs gb5 hgb5 rfl rfl ?_
     intro w93 hb_ hB_ hs_
     have GEb5:Hid (w.heap.size≤gb5):=hid (by have:=HL.out.size;omega)
     have NBr_b5:Hid (g≠gb5):=hid (by have:=BKr.out.lt;omega)
     have NBb5_r:Hid (gb5≠g):=hid (by have:=NBr_b5.out;omega)
     replace BKr:=hid (BKr.out.below hb_ (by rw [← hgb5];exact BKr.out.lt))
     replace HL:=hid (HL.out.below hb_ (GEb5.out))
     have BKb5:=hid hB_
     clear hb_ hB_ hs_ hgb5
     refine Qz ?_
     refine hQ_ _ _ (fun _=>⟨HL.out,BKr.out,trivial⟩) ?_
     clear hQ_ Q'_
     simp only [Act.put,sI,sZ,sS]
     refine QK (.string t1) rfl (fun z_=>Qo (.tmp 24) (.inr rfl) _ rfl) rfl rfl ?_
     intro t_ k_;simp only [sI,sZ,sS] at k_;subst k_
     refine Zg ?_
     refine JX rfl (fun Q'_ hQ_=>?_)
     (with_reducible refine Qf (t:=75) (p:=5) rfl ?_)
     refine Qg Qs gb5 0 #[Ii 0,Ii 0,Ii 0] #[Ii t2,Ii t3,Ii t4] #[Ii t2,Ii t3,Ii t4] BKb5.out rfl (by simp) (by intro v_ hv_;simp at hv_;rcases hv_ with rfl|rfl|rfl <;> first|rfl) rfl rfl _ _ rfl rfl rfl ?_
     intro w94 ho_ hB_
     replace BKr:=hid (BKr.out.off ho_ NBr_b5.out)
     replace HL:=hid (HL.out.off ho_ (.inr GEb5.out))
     replace BKb5:=hid hB_
     clear ho_ hB_
     refine Qz ?_
     refine hQ_ _ _ (fun h_=>absurd h_ (by decide)) ?_
     clear hQ_ Q'_
     simp only [Act.put]
     exact KT ⟨rfl,gb5,rfl,HL.out,BKr.out,BKb5.out,GEb5.out,NBr_b5.out,NBb5_r.out⟩
    ·
     refine JX rfl (fun Q'_ hQ_=>?_)
     (with_reducible refine Qa (N:=5) rfl ?_)
     obtain ⟨gb5,hgb5⟩:∃ g_,w90.heap.size=g_:=⟨_,rfl⟩
     refine Qq Qs gb5 hgb5 rfl rfl ?_
     intro w95 hb_ hB_ hs_
     have GEb5:Hid (w.heap.size≤gb5):=hid (by have:=HL.out.size;omega)
     have NBr_b5:Hid (g≠gb5):=hid (by have:=BKr.out.lt;omega)
     have NBb5_r:Hid (gb5≠g):=hid (by have:=NBr_b5.out;omega)
     replace BKr:=hid (BKr.out.below hb_ (by rw [← hgb5];exact BKr.out.lt))
     replace HL:=hid (HL.out.below hb_ (GEb5.out))
     have BKb5:=hid hB_
     clear hb_ hB_ hs_ hgb5
     refine Qz ?_
     refine hQ_ _ _ (fun _=>⟨HL.out,BKr.out,trivial⟩) ?_
     clear hQ_ Q'_
     simp only [Act.put,sI,sZ,sS]
     refine Zg ?_
     refine JX rfl (fun Q'_ hQ_=>?_)
     refine Jr 69 #[.string s0,Ii s1] (by go_simp) rfl ((ZH.c s0 s1 t1 t2 t3 t4 _ A87.out).mono ?_)
     rintro e_ w97 ⟨rfl,hb_⟩
     replace BKr:=hid (BKr.out.below hb_ BKr.out.lt)
     replace BKb5:=hid (BKb5.out.below hb_ BKb5.out.lt)
     replace HL:=hid (HL.out.below hb_ HL.out.size)
     clear hb_
     refine ⟨_,rfl,?_⟩
     refine hQ_ _ _ (fun h_=>absurd h_ (by decide)) ?_
     clear hQ_ Q'_
     simp only [Act.put,sI,sZ,sS]
     refine QK (.tuple #[.string t1,.agg #[Ii t2,Ii t3,Ii t4]]) rfl (fun z_=>Qo (.tmp 23) (.inl rfl) _ rfl) rfl rfl ?_
     intro t_ k_;simp only [sI,sZ,sS] at k_;subst k_
     refine QK (.string t1) rfl (fun z_=>by go_simp <;> (unfold wrap64;omega)) rfl rfl ?_
     intro t_ k_;simp only [sI,sZ,sS] at k_;subst k_
     refine QK (.agg #[Ii t2,Ii t3,Ii t4]) rfl (fun z_=>by go_simp <;> (unfold wrap64;omega)) rfl rfl ?_
     intro t_ k_;simp only [sI,sZ,sS] at k_;subst k_
     refine QK (.string t1) rfl (fun z_=>Qo (.tmp 24) (.inr rfl) _ rfl) rfl rfl ?_
     intro t_ k_;simp only [sI,sZ,sS] at k_;subst k_
     refine Zg ?_
     refine JX rfl (fun Q'_ hQ_=>?_)
     (with_reducible refine Qf (t:=75) (p:=5) rfl ?_)
     refine Qg Qs gb5 0 #[Ii 0,Ii 0,Ii 0] #[Ii t2,Ii t3,Ii t4] #[Ii t2,Ii t3,Ii t4] BKb5.out rfl (by simp) (by intro v_ hv_;simp at hv_;rcases hv_ with rfl|rfl|rfl <;> first|rfl) rfl rfl _ _ rfl rfl rfl ?_
     intro w98 ho_ hB_
     replace BKr:=hid (BKr.out.off ho_ NBr_b5.out)
     replace HL:=hid (HL.out.off ho_ (.inr GEb5.out))
     replace BKb5:=hid hB_
     clear ho_ hB_
     refine Qz ?_
     refine hQ_ _ _ (fun h_=>absurd h_ (by decide)) ?_
     clear hQ_ Q'_
     simp only [Act.put]
     exact KT ⟨rfl,gb5,rfl,HL.out,BKr.out,BKb5.out,GEb5.out,NBr_b5.out,NBb5_r.out⟩
   rintro gb5 w99 ⟨HL_,BKr_,BKb5_,GEb5_,NBr_b5_,NBb5_r_⟩
   clear HL BKr
   have HL:=hid HL_
   clear HL_
   have BKr:=hid BKr_
   clear BKr_
   have BKb5:=hid BKb5_
   clear BKb5_
   have GEb5:=hid GEb5_
   clear GEb5_
   have NBr_b5:=hid NBr_b5_
   clear NBr_b5_
   have NBb5_r:=hid NBb5_r_
   clear NBb5_r_
   (try simp only [Act.put,sI,sZ,sS])
   have H:=H'.out
   clear H'
   replace H:=Ia H
   obtain ⟨⟨t6,t7,t8⟩,A89_,H⟩:=H
   dsimp only at H
   have A89:=hid A89_
   clear A89_
   by_cases c100:t8=2
   ·
    rw [if_pos c100] at H
    have c100b0:(t8==2)=true:=beq_iff_eq.mpr c100
    have c100b1:(t8 != 2)=false:=bne_eq_false_iff_eq.mpr c100
    have hc100:=hid c100
    clear c100
    simp only [Option.some.injEq,Prod.mk.injEq] at H
    obtain ⟨rfl,rfl,rfl,rfl,rfl,rfl,rfl,rfl,rfl,rfl,rfl,rfl,rfl,rfl,rfl,rfl,rfl⟩:=H
    have k101:=True.intro
    go_wp2_with (first
     |((with_reducible refine Qa (N:=29) rfl ?_);clear k101;refine Xp 48 #[.string t1] (Xe Tryz.func48 (by kernel_rfl) (by kernel_rfl) ((fnv a1)) (by rw [hc88.out];first|done|rfl) _ _ _ rfl rfl (by simp only [List.map_toArray,List.map_cons,List.map_nil];rfl)) rfl ((QJ.c k t1 t6 t7 t8 _ A89.out).mono ?_);rintro e_ w102 ⟨rfl,ln_t6,hb_⟩;have LN_t6:=hid ln_t6;clear ln_t6;replace BKr:=hid (BKr.out.below hb_ BKr.out.lt);replace BKb5:=hid (BKb5.out.below hb_ BKb5.out.lt);replace HL:=hid (HL.out.below hb_ HL.out.size);clear hb_)
     |((with_reducible refine Qa (N:=6) rfl ?_);obtain ⟨gb9,hgb9⟩:∃ g_,w102.heap.size=g_:=⟨_,rfl⟩;refine Qq Jc gb9 hgb9 rfl rfl ?_;intro w103 hb_ hB_ hs_;have GEb9:Hid (w.heap.size≤gb9):=hid (by have:=HL.out.size;omega);have NBr_b9:Hid (g≠gb9):=hid (by have:=BKr.out.lt;omega);have NBb9_r:Hid (gb9≠g):=hid (by have:=NBr_b9.out;omega);replace BKr:=hid (BKr.out.below hb_ (by rw [← hgb9];exact BKr.out.lt));have NBb5_b9:Hid (gb5≠gb9):=hid (by have:=BKb5.out.lt;omega);have NBb9_b5:Hid (gb9≠gb5):=hid (by have:=NBb5_b9.out;omega);replace BKb5:=hid (BKb5.out.below hb_ (by rw [← hgb9];exact BKb5.out.lt));replace HL:=hid (HL.out.below hb_ (GEb9.out));have BKb9:=hid hB_;clear hb_ hB_ hs_ hgb9)
     |((with_reducible refine Qf (t:=24) (p:=6) rfl ?_);refine Qg Jc gb9 0 (bv zL) (bv t6) (bv t6) BKb9.out (by rw [show (bv t6)=av (Value.int .i8) t6 from rfl,Jh];exact LN_t6.out) (ZX Qh) (ZE (fun _=>rfl)) (ZL Qh LN_t6.out) rfl _ _ rfl rfl rfl ?_;intro w104 ho_ hB_;replace BKr:=hid (BKr.out.off ho_ NBr_b9.out);replace BKb5:=hid (BKb5.out.off ho_ NBb5_b9.out);replace HL:=hid (HL.out.off ho_ (.inr GEb9.out));replace BKb9:=hid hB_;clear ho_ hB_)
     |((with_reducible refine Qa (N:=49) rfl ?_);refine Qb (Pg g 1) (Qc 54 1 (Pg g 0) (Pg g 1) (JT g) _ rfl rfl) rfl ?_)
     |((with_reducible refine Qa (N:=50) rfl ?_);refine Qb (Ii s1) (Qd sT3 g (1) (Ii s1) ((yv [.string s0,Ii s1,Ii s2] (Value.int .i8) s3 [Ii s4,Ii s5,Ii s6,Ii s7,Ii s8,Ii s9,.bool s10,.bool s11,.bool s12,Ii s13,Ii s14,Ii s15,s16])) BKr.out ((QC (a:=3) rfl 1 (by decide)).trans rfl) _ rfl rfl) rfl ?_)
     |((with_reducible refine Qa (N:=55) rfl ?_);refine Qb (Pg g 1) (Qc 54 1 (Pg g 0) (Pg g 1) (JT g) _ rfl rfl) rfl ?_)
     |((with_reducible refine Qf (t:=3) (p:=55) rfl ?_);refine QH sT3 g (1) (Ii (wrap64 (s1+t7))) (yv [.string s0,Ii s1,Ii s2] (Value.int .i8) s3 [Ii s4,Ii s5,Ii s6,Ii s7,Ii s8,Ii s9,.bool s10,.bool s11,.bool s12,Ii s13,Ii s14,Ii s15,s16]) (yv [.string s0,Ii (wrap64 (s1+t7)),Ii s2] (Value.int .i8) s3 [Ii s4,Ii s5,Ii s6,Ii s7,Ii s8,Ii s9,.bool s10,.bool s11,.bool s12,Ii s13,Ii s14,Ii s15,s16]) BKr.out (Xm (a:=3) (n:=64) (c:=13) rfl LN_s3.out rfl (m:=1) (by decide)) rfl rfl ((Xr (a:=3) rfl 1 (by decide) _).trans rfl) rfl _ _ rfl rfl rfl ?_;intro w105 ho_ hB_;replace BKb5:=hid (BKb5.out.off ho_ NBb5_r.out);replace BKb9:=hid (BKb9.out.off ho_ NBb9_r.out);replace HL:=hid (HL.out.off ho_ (.inl rfl));replace BKr:=hid hB_;clear ho_ hB_)
     |((with_reducible refine Qa (N:=57) rfl ?_);refine Qb (Pg g 2) (Qc 54 2 (Pg g 0) (Pg g 2) (Jt g) _ rfl rfl) rfl ?_)
     |((with_reducible refine Qf (t:=33) (p:=57) rfl ?_);refine QH Zk g (2) (Ii t8) (yv [.string s0,Ii (wrap64 (s1+t7)),Ii s2] (Value.int .i8) s3 [Ii s4,Ii s5,Ii s6,Ii s7,Ii s8,Ii s9,.bool s10,.bool s11,.bool s12,Ii s13,Ii s14,Ii s15,s16]) (yv [.string s0,Ii (wrap64 (s1+t7)),Ii t8] (Value.int .i8) s3 [Ii s4,Ii s5,Ii s6,Ii s7,Ii s8,Ii s9,.bool s10,.bool s11,.bool s12,Ii s13,Ii s14,Ii s15,s16]) BKr.out (Xm (a:=3) (n:=64) (c:=13) rfl LN_s3.out rfl (m:=2) (by decide)) rfl rfl ((Xr (a:=3) rfl 2 (by decide) _).trans rfl) rfl _ _ rfl rfl rfl ?_;intro w106 ho_ hB_;replace BKb5:=hid (BKb5.out.off ho_ NBb5_r.out);replace BKb9:=hid (BKb9.out.off ho_ NBb9_r.out);replace HL:=hid (HL.out.off ho_ (.inl rfl));replace BKr:=hid hB_;clear ho_ hB_))
    (try simp only [Act.put,sI,sZ,sS])
    (first|go_end0|refine bodyPost_ret (results_none rfl _ _ _) rfl ?_)
    exact ⟨by first|rfl|(simp;done),LN_s3.out,(by exact BKr.out),HL.out⟩
   ·
    rw [if_neg c100] at H
    have c100b0:(t8==2)=false:=beq_eq_false_iff_ne.mpr c100
    have c100b1:(t8 != 2)=true:=bne_iff_ne.mpr c100
    have hc100:=hid c100
    clear c100
    by_cases c107:t4=0
    ·
     rw [if_pos c107] at H
     have c107b0:(t4==0)=true:=beq_iff_eq.mpr c107
     have c107b1:(t4 != 0)=false:=bne_eq_false_iff_eq.mpr c107
     have hc107:=hid c107
     clear c107
     by_cases c108:t8=0
     ·
      rw [if_pos c108] at H
      have c108b0:(t8==0)=true:=beq_iff_eq.mpr c108
      have c108b1:(t8 != 0)=false:=bne_eq_false_iff_eq.mpr c108
      have hc108:=hid c108
      clear c108
      replace H:=Ia H
      obtain ⟨⟨t10,t11,t12,t13,t14,t15,t16,t17,t18,t19,t20,t21,t22,t23,t24,t25,t26,t27⟩,A109_,H⟩:=H
      dsimp only at H
      have A109:=hid A109_
      clear A109_
      simp only [Option.some.injEq,Prod.mk.injEq] at H
      obtain ⟨rfl,rfl,rfl,rfl,rfl,rfl,rfl,rfl,rfl,rfl,rfl,rfl,rfl,rfl,rfl,rfl,rfl⟩:=H
      have k110:=True.intro
      have k115:=True.intro
      go_wp2_with (first
       |((with_reducible refine Qa (N:=29) rfl ?_);clear k110;refine Xp 48 #[.string t1] (Xe Tryz.func48 (by kernel_rfl) (by kernel_rfl) ((fnv a1)) (by rw [hc88.out];first|done|rfl) _ _ _ rfl rfl (by simp only [List.map_toArray,List.map_cons,List.map_nil];rfl)) rfl ((QJ.c k t1 t6 t7 t8 _ A89.out).mono ?_);rintro e_ w111 ⟨rfl,ln_t6,hb_⟩;have LN_t6:=hid ln_t6;clear ln_t6;replace BKr:=hid (BKr.out.below hb_ BKr.out.lt);replace BKb5:=hid (BKb5.out.below hb_ BKb5.out.lt);replace HL:=hid (HL.out.below hb_ HL.out.size);clear hb_)
       |((with_reducible refine Qa (N:=6) rfl ?_);obtain ⟨gb9,hgb9⟩:∃ g_,w111.heap.size=g_:=⟨_,rfl⟩;refine Qq Jc gb9 hgb9 rfl rfl ?_;intro w112 hb_ hB_ hs_;have GEb9:Hid (w.heap.size≤gb9):=hid (by have:=HL.out.size;omega);have NBr_b9:Hid (g≠gb9):=hid (by have:=BKr.out.lt;omega);have NBb9_r:Hid (gb9≠g):=hid (by have:=NBr_b9.out;omega);replace BKr:=hid (BKr.out.below hb_ (by rw [← hgb9];exact BKr.out.lt));have NBb5_b9:Hid (gb5≠gb9):=hid (by have:=BKb5.out.lt;omega);have NBb9_b5:Hid (gb9≠gb5):=hid (by have:=NBb5_b9.out;omega);replace BKb5:=hid (BKb5.out.below hb_ (by rw [← hgb9];exact BKb5.out.lt));replace HL:=hid (HL.out.below hb_ (GEb9.out));have BKb9:=hid hB_;clear hb_ hB_ hs_ hgb9)
       |((with_reducible refine Qf (t:=24) (p:=6) rfl ?_);refine Qg Jc gb9 0 (bv zL) (bv t6) (bv t6) BKb9.out (by rw [show (bv t6)=av (Value.int .i8) t6 from rfl,Jh];exact LN_t6.out) (ZX Qh) (ZE (fun _=>rfl)) (ZL Qh LN_t6.out) rfl _ _ rfl rfl rfl ?_;intro w113 ho_ hB_;replace BKr:=hid (BKr.out.off ho_ NBr_b9.out);replace BKb5:=hid (BKb5.out.off ho_ NBb5_b9.out);replace HL:=hid (HL.out.off ho_ (.inr GEb9.out));replace BKb9:=hid hB_;clear ho_ hB_)
       |((with_reducible refine Qa (N:=59) rfl ?_);refine Qb (Pg gb5 2) (Qc 75 2 (Pg gb5 0) (Pg gb5 2) (Js gb5) _ rfl rfl) rfl ?_)
       |((with_reducible refine Qa (N:=60) rfl ?_);refine Qb (Ii t4) (Qd Zk gb5 (2) (Ii t4) (#[Ii t2,Ii t3,Ii t4]) BKb5.out rfl _ rfl rfl) rfl ?_)
       |((with_reducible refine Qa (N:=34) rfl ?_);refine Qb (.agg (bv t6)) (QI Jc gb9 0 (bv t6) (bv t6) BKb9.out (ZX LN_t6.out) (jV LN_t6.out) _ rfl rfl) rfl ?_)
       |((with_reducible refine Qa (N:=36) rfl ?_);refine Qb (Pg g 3) (Qc 54 3 (Pg g 0) (Pg g 3) (Xl g) _ rfl rfl) rfl ?_)
       |((with_reducible refine Qa (N:=37) rfl ?_);refine Qb (Pg g 3) (Qc 30 0 (Pg g 3) (Pg g 3) (KG g) _ rfl rfl) rfl ?_)
       |((with_reducible refine Qa (N:=38) rfl ?_);refine Qb (Pg g 3) (Qc 26 0 (Pg g 3) (Pg g 3) (xM g) _ rfl rfl) rfl ?_)
       |((with_reducible refine Qf (t:=24) (p:=38) rfl ?_);refine Qg Jc g 3 (yv [.string s0,Ii s1,Ii s2] (Value.int .i8) s3 [Ii s4,Ii s5,Ii s6,Ii s7,Ii s8,Ii s9,.bool s10,.bool s11,.bool s12,Ii s13,Ii s14,Ii s15,s16]) (bv t6) (yv [.string s0,Ii s1,Ii s2] (Value.int .i8) t6 [Ii s4,Ii s5,Ii s6,Ii s7,Ii s8,Ii s9,.bool s10,.bool s11,.bool s12,Ii s13,Ii s14,Ii s15,s16]) BKr.out (by rw [show (bv t6)=av (Value.int .i8) t6 from rfl,Jh];exact LN_t6.out) (zh (a:=3) (n:=64) (c:=13) rfl LN_s3.out rfl (m:=67) (by decide)) (ZE (fun _=>rfl)) (vV (a:=3) (n:=64) rfl LN_s3.out LN_t6.out) rfl _ _ rfl rfl rfl ?_;intro w114 ho_ hB_;replace BKb5:=hid (BKb5.out.off ho_ NBb5_r.out);replace BKb9:=hid (BKb9.out.off ho_ NBb9_r.out);replace HL:=hid (HL.out.off ho_ (.inl rfl));replace BKr:=hid hB_;clear ho_ hB_)
       |((with_reducible refine Qa (N:=40) rfl ?_);refine Qb (.agg #[Ii t2,Ii t3,Ii t4]) (QI Qs gb5 0 #[Ii t2,Ii t3,Ii t4] #[Ii t2,Ii t3,Ii t4] BKb5.out (by simp) rfl _ rfl rfl) rfl ?_)
       |(go_at_call 44;clear k115;refine (Ql.c s0 s1 s2 t6 s4 s5 s6 s7 s8 s9 s10 s11 s12 s13 s14 s15 s16 t2 t3 t4 LN_t6.out t10 t11 t12 t13 t14 t15 t16 t17 t18 t19 t20 t21 t22 t23 t24 t25 t26 t27 g _ BKr.out A109.out).mono ?_;rintro e_ w116 ⟨rfl,ln_t14,hB_,hx_⟩;have LN_t14:=hid ln_t14;clear ln_t14;replace BKb5:=hid (BKb5.out.bex hx_ BKb5.out.lt NBb5_r.out);replace BKb9:=hid (BKb9.out.bex hx_ BKb9.out.lt NBb9_r.out);replace HL:=hid (HL.out.bex hx_ HL.out.size (.inl rfl));replace BKr:=hid hB_;clear hx_ hB_))
      (try simp only [Act.put,sI,sZ,sS])
      (first|go_end0|refine bodyPost_ret (results_none rfl _ _ _) rfl ?_)
      exact ⟨by first|rfl|(simp;done),LN_t14.out,(by exact BKr.out),HL.out⟩
     ·
      rw [if_neg c108] at H
      have c108b0:(t8==0)=false:=beq_eq_false_iff_ne.mpr c108
      have c108b1:(t8 != 0)=true:=bne_iff_ne.mpr c108
      have hc108:=hid c108
      clear c108
      simp only [Option.some.injEq,Prod.mk.injEq] at H
      obtain ⟨rfl,rfl,rfl,rfl,rfl,rfl,rfl,rfl,rfl,rfl,rfl,rfl,rfl,rfl,rfl,rfl,rfl⟩:=H
      have k117:=True.intro
      go_wp2_with (first
       |((with_reducible refine Qa (N:=29) rfl ?_);clear k117;refine Xp 48 #[.string t1] (Xe Tryz.func48 (by kernel_rfl) (by kernel_rfl) ((fnv a1)) (by rw [hc88.out];first|done|rfl) _ _ _ rfl rfl (by simp only [List.map_toArray,List.map_cons,List.map_nil];rfl)) rfl ((QJ.c k t1 t6 t7 t8 _ A89.out).mono ?_);rintro e_ w118 ⟨rfl,ln_t6,hb_⟩;have LN_t6:=hid ln_t6;clear ln_t6;replace BKr:=hid (BKr.out.below hb_ BKr.out.lt);replace BKb5:=hid (BKb5.out.below hb_ BKb5.out.lt);replace HL:=hid (HL.out.below hb_ HL.out.size);clear hb_)
       |((with_reducible refine Qa (N:=6) rfl ?_);obtain ⟨gb9,hgb9⟩:∃ g_,w118.heap.size=g_:=⟨_,rfl⟩;refine Qq Jc gb9 hgb9 rfl rfl ?_;intro w119 hb_ hB_ hs_;have GEb9:Hid (w.heap.size≤gb9):=hid (by have:=HL.out.size;omega);have NBr_b9:Hid (g≠gb9):=hid (by have:=BKr.out.lt;omega);have NBb9_r:Hid (gb9≠g):=hid (by have:=NBr_b9.out;omega);replace BKr:=hid (BKr.out.below hb_ (by rw [← hgb9];exact BKr.out.lt));have NBb5_b9:Hid (gb5≠gb9):=hid (by have:=BKb5.out.lt;omega);have NBb9_b5:Hid (gb9≠gb5):=hid (by have:=NBb5_b9.out;omega);replace BKb5:=hid (BKb5.out.below hb_ (by rw [← hgb9];exact BKb5.out.lt));replace HL:=hid (HL.out.below hb_ (GEb9.out));have BKb9:=hid hB_;clear hb_ hB_ hs_ hgb9)
       |((with_reducible refine Qf (t:=24) (p:=6) rfl ?_);refine Qg Jc gb9 0 (bv zL) (bv t6) (bv t6) BKb9.out (by rw [show (bv t6)=av (Value.int .i8) t6 from rfl,Jh];exact LN_t6.out) (ZX Qh) (ZE (fun _=>rfl)) (ZL Qh LN_t6.out) rfl _ _ rfl rfl rfl ?_;intro w120 ho_ hB_;replace BKr:=hid (BKr.out.off ho_ NBr_b9.out);replace BKb5:=hid (BKb5.out.off ho_ NBb5_b9.out);replace HL:=hid (HL.out.off ho_ (.inr GEb9.out));replace BKb9:=hid hB_;clear ho_ hB_)
       |((with_reducible refine Qa (N:=59) rfl ?_);refine Qb (Pg gb5 2) (Qc 75 2 (Pg gb5 0) (Pg gb5 2) (Js gb5) _ rfl rfl) rfl ?_)
       |((with_reducible refine Qa (N:=60) rfl ?_);refine Qb (Ii t4) (Qd Zk gb5 (2) (Ii t4) (#[Ii t2,Ii t3,Ii t4]) BKb5.out rfl _ rfl rfl) rfl ?_)
       |((with_reducible refine Qa (N:=72) rfl ?_);refine Qb (Pg g 1) (Qc 54 1 (Pg g 0) (Pg g 1) (JT g) _ rfl rfl) rfl ?_)
       |((with_reducible refine Qa (N:=73) rfl ?_);refine Qb (Ii s1) (Qd sT3 g (1) (Ii s1) ((yv [.string s0,Ii s1,Ii s2] (Value.int .i8) s3 [Ii s4,Ii s5,Ii s6,Ii s7,Ii s8,Ii s9,.bool s10,.bool s11,.bool s12,Ii s13,Ii s14,Ii s15,s16])) BKr.out ((QC (a:=3) rfl 1 (by decide)).trans rfl) _ rfl rfl) rfl ?_)
       |((with_reducible refine Qa (N:=77) rfl ?_);refine Qb (Pg g 1) (Qc 54 1 (Pg g 0) (Pg g 1) (JT g) _ rfl rfl) rfl ?_)
       |((with_reducible refine Qf (t:=3) (p:=77) rfl ?_);refine QH sT3 g (1) (Ii (wrap64 (s1+t7))) (yv [.string s0,Ii s1,Ii s2] (Value.int .i8) s3 [Ii s4,Ii s5,Ii s6,Ii s7,Ii s8,Ii s9,.bool s10,.bool s11,.bool s12,Ii s13,Ii s14,Ii s15,s16]) (yv [.string s0,Ii (wrap64 (s1+t7)),Ii s2] (Value.int .i8) s3 [Ii s4,Ii s5,Ii s6,Ii s7,Ii s8,Ii s9,.bool s10,.bool s11,.bool s12,Ii s13,Ii s14,Ii s15,s16]) BKr.out (Xm (a:=3) (n:=64) (c:=13) rfl LN_s3.out rfl (m:=1) (by decide)) rfl rfl ((Xr (a:=3) rfl 1 (by decide) _).trans rfl) rfl _ _ rfl rfl rfl ?_;intro w121 ho_ hB_;replace BKb5:=hid (BKb5.out.off ho_ NBb5_r.out);replace BKb9:=hid (BKb9.out.off ho_ NBb9_r.out);replace HL:=hid (HL.out.off ho_ (.inl rfl));replace BKr:=hid hB_;clear ho_ hB_)
       |((with_reducible refine Qa (N:=79) rfl ?_);refine Qb (Pg g 2) (Qc 54 2 (Pg g 0) (Pg g 2) (Jt g) _ rfl rfl) rfl ?_)
       |((with_reducible refine Qf (t:=33) (p:=79) rfl ?_);refine QH Zk g (2) (Ii 2) (yv [.string s0,Ii (wrap64 (s1+t7)),Ii s2] (Value.int .i8) s3 [Ii s4,Ii s5,Ii s6,Ii s7,Ii s8,Ii s9,.bool s10,.bool s11,.bool s12,Ii s13,Ii s14,Ii s15,s16]) (yv [.string s0,Ii (wrap64 (s1+t7)),Ii 2] (Value.int .i8) s3 [Ii s4,Ii s5,Ii s6,Ii s7,Ii s8,Ii s9,.bool s10,.bool s11,.bool s12,Ii s13,Ii s14,Ii s15,s16]) BKr.out (Xm (a:=3) (n:=64) (c:=13) rfl LN_s3.out rfl (m:=2) (by decide)) rfl rfl ((Xr (a:=3) rfl 2 (by decide) _).trans rfl) rfl _ _ rfl rfl rfl ?_;intro w122 ho_ hB_;replace BKb5:=hid (BKb5.out.off ho_ NBb5_r.out);replace BKb9:=hid (BKb9.out.off ho_ NBb9_r.out);replace HL:=hid (HL.out.off ho_ (.inl rfl));replace BKr:=hid hB_;clear ho_ hB_))
      (try simp only [Act.put,sI,sZ,sS])
      (first|go_end0|refine bodyPost_ret (results_none rfl _ _ _) rfl ?_)
      exact ⟨by first|rfl|(simp;done),LN_s3.out,(by exact BKr.out),HL.out⟩
    ·
     rw [if_neg c107] at H
     have c107b0:(t4==0)=false:=beq_eq_false_iff_ne.mpr c107
     have c107b1:(t4 != 0)=true:=bne_iff_ne.mpr c107
     have hc107:=hid c107
     clear c107
     replace H:=Ia H
     obtain ⟨⟨t28,t29,t30,t31,t32,t33,t34,t35,t36,t37,t38,t39,t40,t41,t42,t43,t44,t45⟩,A123_,H⟩:=H
     dsimp only at H
     have A123:=hid A123_
     clear A123_
     simp only [Option.some.injEq,Prod.mk.injEq] at H
     obtain ⟨rfl,rfl,rfl,rfl,rfl,rfl,rfl,rfl,rfl,rfl,rfl,rfl,rfl,rfl,rfl,rfl,rfl⟩:=H
     have k124:=True.intro
     have k128:=True.intro
     go_wp2_with (first
      |((with_reducible refine Qa (N:=29) rfl ?_);clear k124;refine Xp 48 #[.string t1] (Xe Tryz.func48 (by kernel_rfl) (by kernel_rfl) ((fnv a1)) (by rw [hc88.out];first|done|rfl) _ _ _ rfl rfl (by simp only [List.map_toArray,List.map_cons,List.map_nil];rfl)) rfl ((QJ.c k t1 t6 t7 t8 _ A89.out).mono ?_);rintro e_ w125 ⟨rfl,ln_t6,hb_⟩;have LN_t6:=hid ln_t6;clear ln_t6;replace BKr:=hid (BKr.out.below hb_ BKr.out.lt);replace BKb5:=hid (BKb5.out.below hb_ BKb5.out.lt);replace HL:=hid (HL.out.below hb_ HL.out.size);clear hb_)
      |((with_reducible refine Qa (N:=6) rfl ?_);obtain ⟨gb9,hgb9⟩:∃ g_,w125.heap.size=g_:=⟨_,rfl⟩;refine Qq Jc gb9 hgb9 rfl rfl ?_;intro w126 hb_ hB_ hs_;have GEb9:Hid (w.heap.size≤gb9):=hid (by have:=HL.out.size;omega);have NBr_b9:Hid (g≠gb9):=hid (by have:=BKr.out.lt;omega);have NBb9_r:Hid (gb9≠g):=hid (by have:=NBr_b9.out;omega);replace BKr:=hid (BKr.out.below hb_ (by rw [← hgb9];exact BKr.out.lt));have NBb5_b9:Hid (gb5≠gb9):=hid (by have:=BKb5.out.lt;omega);have NBb9_b5:Hid (gb9≠gb5):=hid (by have:=NBb5_b9.out;omega);replace BKb5:=hid (BKb5.out.below hb_ (by rw [← hgb9];exact BKb5.out.lt));replace HL:=hid (HL.out.below hb_ (GEb9.out));have BKb9:=hid hB_;clear hb_ hB_ hs_ hgb9)
      |((with_reducible refine Qf (t:=24) (p:=6) rfl ?_);refine Qg Jc gb9 0 (bv zL) (bv t6) (bv t6) BKb9.out (by rw [show (bv t6)=av (Value.int .i8) t6 from rfl,Jh];exact LN_t6.out) (ZX Qh) (ZE (fun _=>rfl)) (ZL Qh LN_t6.out) rfl _ _ rfl rfl rfl ?_;intro w127 ho_ hB_;replace BKr:=hid (BKr.out.off ho_ NBr_b9.out);replace BKb5:=hid (BKb5.out.off ho_ NBb5_b9.out);replace HL:=hid (HL.out.off ho_ (.inr GEb9.out));replace BKb9:=hid hB_;clear ho_ hB_)
      |((with_reducible refine Qa (N:=59) rfl ?_);refine Qb (Pg gb5 2) (Qc 75 2 (Pg gb5 0) (Pg gb5 2) (Js gb5) _ rfl rfl) rfl ?_)
      |((with_reducible refine Qa (N:=60) rfl ?_);refine Qb (Ii t4) (Qd Zk gb5 (2) (Ii t4) (#[Ii t2,Ii t3,Ii t4]) BKb5.out rfl _ rfl rfl) rfl ?_)
      |((with_reducible refine Qa (N:=63) rfl ?_);refine Qb (.agg #[Ii t2,Ii t3,Ii t4]) (QI Qs gb5 0 #[Ii t2,Ii t3,Ii t4] #[Ii t2,Ii t3,Ii t4] BKb5.out (by simp) rfl _ rfl rfl) rfl ?_)
      |(go_at_call 44;clear k128;refine (Ql.c s0 s1 s2 s3 s4 s5 s6 s7 s8 s9 s10 s11 s12 s13 s14 s15 s16 t2 t3 t4 LN_s3.out t28 t29 t30 t31 t32 t33 t34 t35 t36 t37 t38 t39 t40 t41 t42 t43 t44 t45 g _ BKr.out A123.out).mono ?_;rintro e_ w129 ⟨rfl,ln_t32,hB_,hx_⟩;have LN_t32:=hid ln_t32;clear ln_t32;replace BKb5:=hid (BKb5.out.bex hx_ BKb5.out.lt NBb5_r.out);replace BKb9:=hid (BKb9.out.bex hx_ BKb9.out.lt NBb9_r.out);replace HL:=hid (HL.out.bex hx_ HL.out.size (.inl rfl));replace BKr:=hid hB_;clear hx_ hB_))
     (try simp only [Act.put,sI,sZ,sS])
     (first|go_end0|refine bodyPost_ret (results_none rfl _ _ _) rfl ?_)
     exact ⟨by first|rfl|(simp;done),LN_t32.out,(by exact BKr.out),HL.out⟩
  ·
   rw [if_neg c88] at H
   have c88b0:(a1==48)=false:=beq_eq_false_iff_ne.mpr c88
   have c88b1:(a1 != 48)=true:=bne_iff_ne.mpr c88
   have hc88:=hid c88
   clear c88
   by_cases c130:a1=49
   ·
    rw [if_pos c130] at H
    have c130b0:(a1==49)=true:=beq_iff_eq.mpr c130
    have c130b1:(a1 != 49)=false:=bne_eq_false_iff_eq.mpr c130
    have hc130:=hid c130
    clear c130
    have H':=hid H
    clear H
    go_enter Tryz.func47,Tryz.ntmps47
    go_wp2_with (first
     |((with_reducible refine Qa (N:=11) rfl ?_);refine Qb (Pg g 2) (Qc 54 2 (Pg g 0) (Pg g 2) (Jt g) _ rfl rfl) rfl ?_)
     |((with_reducible refine Qa (N:=12) rfl ?_);refine Qb (Ii s2) (Qd Zk g (2) (Ii s2) ((yv [.string s0,Ii s1,Ii s2] (Value.int .i8) s3 [Ii s4,Ii s5,Ii s6,Ii s7,Ii s8,Ii s9,.bool s10,.bool s11,.bool s12,Ii s13,Ii s14,Ii s15,s16])) BKr.out ((QC (a:=3) rfl 2 (by decide)).trans rfl) _ rfl rfl) rfl ?_))
    (try simp only [Act.put,sI,sZ,sS])
    have WR64:=Zs
    have WR32:=ZA
    have WR8:=Ko
    have WRU:=ZY
    apply vP (F:=fun gb5 z_=>(Bex g w.heap.size w z_)∧(Blk z_ g 54 (yv [.string s0,Ii s1,Ii s2] (Value.int .i8) s3 [Ii s4,Ii s5,Ii s6,Ii s7,Ii s8,Ii s9,.bool s10,.bool s11,.bool s12,Ii s13,Ii s14,Ii s15,s16]))∧(Blk z_ gb5 75 #[Ii t2,Ii t3,Ii t4])∧(w.heap.size≤gb5)∧(g≠gb5)∧(gb5≠g))
    ·
     refine qC (fun z_=>Bex g w.heap.size w z_∧Blk z_ g 54 (yv [.string s0,Ii s1,Ii s2] (Value.int .i8) s3 [Ii s4,Ii s5,Ii s6,Ii s7,Ii s8,Ii s9,.bool s10,.bool s11,.bool s12,Ii s13,Ii s14,Ii s15,s16])∧True) [8,14] (.pure 0 (.pure 1 (.pure 2 (.take 3 (.pure 4 (.pure 5 (.pure 6 (.take 7 (.f2 8 (.pure 9 (.pure 10 (.pure 11 (.act 12 (.pure 13 (.act 14 .nil)))))) 12 (.act 8 (.pure 9 (.pure 10 (.pure 11 (.pure 13 (.act 14 .nil))))))))))))))) (by kernel_rfl) (by kernel_rfl) (by kernel_rfl) rfl ?_
     intro w132 hb_
     replace BKr:=hid (BKr.out.below hb_ BKr.out.lt)
     replace HL:=hid (HL.out.below hb_ HL.out.size)
     clear hb_
     refine QK (Pg g 0) rfl (fun z_=>Qo (.tmp 0) (.inl rfl) _ rfl) rfl rfl ?_
     intro t_ k_;simp only [sI,sZ,sS] at k_;subst k_
     refine QK (Pg g 0) rfl (fun z_=>by go_simp <;> (unfold wrap64;omega)) rfl rfl ?_
     intro t_ k_;simp only [sI,sZ,sS] at k_;subst k_
     refine QK (Pg g 0) rfl (fun z_=>Qc 54 0 (Pg g 0) (Pg g 0) (KF g) _ rfl rfl) rfl rfl ?_
     intro t_ k_;simp only [sI,sZ,sS] at k_;subst k_
     refine VP (.string s0) ⟨HL.out,BKr.out,trivial⟩ rfl (fun z_ hS_=>Qd sT9 g (0) (.string s0) ((yv [.string s0,Ii s1,Ii s2] (Value.int .i8) s3 [Ii s4,Ii s5,Ii s6,Ii s7,Ii s8,Ii s9,.bool s10,.bool s11,.bool s12,Ii s13,Ii s14,Ii s15,s16])) hS_.2.1 ((QC (a:=3) rfl 0 (by decide)).trans rfl) _ rfl rfl) rfl rfl ?_
     intro t_ k_;simp only [sI,sZ,sS] at k_;subst k_
     refine QK (Pg g 0) rfl (fun z_=>Qo (.tmp 0) (.inl rfl) _ rfl) rfl rfl ?_
     intro t_ k_;simp only [sI,sZ,sS] at k_;subst k_
     refine QK (Pg g 0) rfl (fun z_=>by go_simp <;> (unfold wrap64;omega)) rfl rfl ?_
     intro t_ k_;simp only [sI,sZ,sS] at k_;subst k_
     refine QK (Pg g 1) rfl (fun z_=>Qc 54 1 (Pg g 0) (Pg g 1) (JT g) _ rfl rfl) rfl rfl ?_
     intro t_ k_;simp only [sI,sZ,sS] at k_;subst k_
     refine VP (Ii s1) ⟨HL.out,BKr.out,trivial⟩ rfl (fun z_ hS_=>Qd sT3 g (1) (Ii s1) ((yv [.string s0,Ii s1,Ii s2] (Value.int .i8) s3 [Ii s4,Ii s5,Ii s6,Ii s7,Ii s8,Ii s9,.bool s10,.bool s11,.bool s12,Ii s13,Ii s14,Ii s15,s16])) hS_.2.1 ((QC (a:=3) rfl 1 (by decide)).trans rfl) _ rfl rfl) rfl rfl ?_
     intro t_ k_;simp only [sI,sZ,sS] at k_;subst k_
     refine xF ?_ ?_
     ·
      refine JX rfl (fun Q'_ hQ_=>?_)
      refine Jr 69 #[.string s0,Ii s1] (by go_simp) rfl ((ZH.c s0 s1 t1 t2 t3 t4 _ A87.out).mono ?_)
      rintro e_ w134 ⟨rfl,hb_⟩
      replace BKr:=hid (BKr.out.below hb_ BKr.out.lt)
      replace HL:=hid (HL.out.below hb_ HL.out.size)
      clear hb_
      refine ⟨_,rfl,?_⟩
      refine hQ_ _ _ (fun h_=>absurd h_ (by decide)) ?_
      clear hQ_ Q'_
      simp only [Act.put,sI,sZ,sS]
      refine QK (.tuple #[.string t1,.agg #[Ii t2,Ii t3,Ii t4]]) rfl (fun z_=>Qo (.tmp 23) (.inl rfl) _ rfl) rfl rfl ?_
      intro t_ k_;simp only [sI,sZ,sS] at k_;subst k_
      refine QK (.string t1) rfl (fun z_=>by go_simp <;> (unfold wrap64;omega)) rfl rfl ?_
      intro t_ k_;simp only [sI,sZ,sS] at k_;subst k_
      refine QK (.agg #[Ii t2,Ii t3,Ii t4]) rfl (fun z_=>by go_simp <;> (unfold wrap64;omega)) rfl rfl ?_
      intro t_ k_;simp only [sI,sZ,sS] at k_;subst k_
      refine Zg ?_
      refine JX rfl (fun Q'_ hQ_=>?_)
      (with_reducible refine Qa (N:=5) rfl ?_)
      obtain ⟨gb5,hgb5⟩:∃ g_,w134.heap.size=g_:=⟨_,rfl⟩
      refine Qq Qs gb5 hgb5 rfl rfl ?_
      intro w135 hb_ hB_ hs_
      have GEb5:Hid (w.heap.size≤gb5):=hid (by have:=HL.out.size;omega)
      have NBr_b5:Hid (g≠gb5):=hid (by have:=BKr.out.lt;omega)
      have NBb5_r:Hid (gb5≠g):=hid (by have:=NBr_b5.out;omega)
      replace BKr:=hid (BKr.out.below hb_ (by rw [← hgb5];exact BKr.out.lt))
      replace HL:=hid (HL.out.below hb_ (GEb5.out))
      have BKb5:=hid hB_
      clear hb_ hB_ hs_ hgb5
      refine Qz ?_
      refine hQ_ _ _ (fun _=>⟨HL.out,BKr.out,trivial⟩) ?_
      clear hQ_ Q'_
      simp only [Act.put,sI,sZ,sS]
      refine QK (.string t1) rfl (fun z_=>Qo (.tmp 24) (.inr rfl) _ rfl) rfl rfl ?_
      intro t_ k_;simp only [sI,sZ,sS] at k_;subst k_
      refine Zg ?_
      refine JX rfl (fun Q'_ hQ_=>?_)
      (with_reducible refine Qf (t:=75) (p:=5) rfl ?_)
      refine Qg Qs gb5 0 #[Ii 0,Ii 0,Ii 0] #[Ii t2,Ii t3,Ii t4] #[Ii t2,Ii t3,Ii t4] BKb5.out rfl (by simp) (by intro v_ hv_;simp at hv_;rcases hv_ with rfl|rfl|rfl <;> first|rfl) rfl rfl _ _ rfl rfl rfl ?_
      intro w136 ho_ hB_
      replace BKr:=hid (BKr.out.off ho_ NBr_b5.out)
      replace HL:=hid (HL.out.off ho_ (.inr GEb5.out))
      replace BKb5:=hid hB_
      clear ho_ hB_
      refine Qz ?_
      refine hQ_ _ _ (fun h_=>absurd h_ (by decide)) ?_
      clear hQ_ Q'_
      simp only [Act.put]
      exact KT ⟨rfl,gb5,rfl,HL.out,BKr.out,BKb5.out,GEb5.out,NBr_b5.out,NBb5_r.out⟩
     ·
      refine JX rfl (fun Q'_ hQ_=>?_)
      (with_reducible refine Qa (N:=5) rfl ?_)
      obtain ⟨gb5,hgb5⟩:∃ g_,w132.heap.size=g_:=⟨_,rfl⟩
      refine Qq Qs gb5 hgb5 rfl rfl ?_
      intro w137 hb_ hB_ hs_
      have GEb5:Hid (w.heap.size≤gb5):=hid (by have:=HL.out.size;omega)
      have NBr_b5:Hid (g≠gb5):=hid (by have:=BKr.out.lt;omega)
      have NBb5_r:Hid (gb5≠g):=hid (by have:=NBr_b5.out;omega)
      replace BKr:=hid (BKr.out.below hb_ (by rw [← hgb5];exact BKr.out.lt))
      replace HL:=hid (HL.out.below hb_ (GEb5.out))
      have BKb5:=hid hB_
      clear hb_ hB_ hs_ hgb5
      refine Qz ?_
      refine hQ_ _ _ (fun _=>⟨HL.out,BKr.out,trivial⟩) ?_
      clear hQ_ Q'_
      simp only [Act.put,sI,sZ,sS]
      refine Zg ?_
      refine JX rfl (fun Q'_ hQ_=>?_)
      refine Jr 69 #[.string s0,Ii s1] (by go_simp) rfl ((ZH.c s0 s1 t1 t2 t3 t4 _ A87.out).mono ?_)
      rintro e_ w139 ⟨rfl,hb_⟩
      replace BKr:=hid (BKr.out.below hb_ BKr.out.lt)
      replace BKb5:=hid (BKb5.out.below hb_ BKb5.out.lt)
      replace HL:=hid (HL.out.below hb_ HL.out.size)
      clear hb_
      refine ⟨_,rfl,?_⟩
      refine hQ_ _ _ (fun h_=>absurd h_ (by decide)) ?_
      clear hQ_ Q'_
      simp only [Act.put,sI,sZ,sS]
      refine QK (.tuple #[.string t1,.agg #[Ii t2,Ii t3,Ii t4]]) rfl (fun z_=>Qo (.tmp 23) (.inl rfl) _ rfl) rfl rfl ?_
      intro t_ k_;simp only [sI,sZ,sS] at k_;subst k_
      refine QK (.string t1) rfl (fun z_=>by go_simp <;> (unfold wrap64;omega)) rfl rfl ?_
      intro t_ k_;simp only [sI,sZ,sS] at k_;subst k_
      refine QK (.agg #[Ii t2,Ii t3,Ii t4]) rfl (fun z_=>by go_simp <;> (unfold wrap64;omega)) rfl rfl ?_
      intro t_ k_;simp only [sI,sZ,sS] at k_;subst k_
      refine QK (.string t1) rfl (fun z_=>Qo (.tmp 24) (.inr rfl) _ rfl) rfl rfl ?_
      intro t_ k_;simp only [sI,sZ,sS] at k_;subst k_
      refine Zg ?_
      refine JX rfl (fun Q'_ hQ_=>?_)
      (with_reducible refine Qf (t:=75) (p:=5) rfl ?_)
      refine Qg Qs gb5 0 #[Ii 0,Ii 0,Ii 0] #[Ii t2,Ii t3,Ii t4] #[Ii t2,Ii t3,Ii t4] BKb5.out rfl (by simp) (by intro v_ hv_;simp at hv_;rcases hv_ with rfl|rfl|rfl <;> first|rfl) rfl rfl _ _ rfl rfl rfl ?_
      intro w140 ho_ hB_
      replace BKr:=hid (BKr.out.off ho_ NBr_b5.out)
      replace HL:=hid (HL.out.off ho_ (.inr GEb5.out))
      replace BKb5:=hid hB_
      clear ho_ hB_
      refine Qz ?_
      refine hQ_ _ _ (fun h_=>absurd h_ (by decide)) ?_
      clear hQ_ Q'_
      simp only [Act.put]
      exact KT ⟨rfl,gb5,rfl,HL.out,BKr.out,BKb5.out,GEb5.out,NBr_b5.out,NBb5_r.out⟩
    rintro gb5 w141 ⟨HL_,BKr_,BKb5_,GEb5_,NBr_b5_,NBb5_r_⟩
    clear HL BKr
    have HL:=hid HL_
    clear HL_
    have BKr:=hid BKr_
    clear BKr_
    have BKb5:=hid BKb5_
    clear BKb5_
    have GEb5:=hid GEb5_
    clear GEb5_
    have NBr_b5:=hid NBr_b5_
    clear NBr_b5_
    have NBb5_r:=hid NBb5_r_
    clear NBb5_r_
    (try simp only [Act.put,sI,sZ,sS])
    have H:=H'.out
    clear H'
    replace H:=Ia H
    obtain ⟨⟨t46,t47,t48⟩,A131_,H⟩:=H
    dsimp only at H
    have A131:=hid A131_
    clear A131_
    by_cases c142:t48=2
    ·
     rw [if_pos c142] at H
     have c142b0:(t48==2)=true:=beq_iff_eq.mpr c142
     have c142b1:(t48 != 2)=false:=bne_eq_false_iff_eq.mpr c142
     have hc142:=hid c142
     clear c142
     simp only [Option.some.injEq,Prod.mk.injEq] at H
     obtain ⟨rfl,rfl,rfl,rfl,rfl,rfl,rfl,rfl,rfl,rfl,rfl,rfl,rfl,rfl,rfl,rfl,rfl⟩:=H
     have k143:=True.intro
     go_wp2_with (first
      |((with_reducible refine Qa (N:=29) rfl ?_);clear k143;refine Xp 49 #[.string t1] (Xe Tryz.func49 (by kernel_rfl) (by kernel_rfl) ((fnv a1)) (by rw [hc130.out];first|done|rfl) _ _ _ rfl rfl (by simp only [List.map_toArray,List.map_cons,List.map_nil];rfl)) rfl ((QW.c k t1 t46 t47 t48 _ A131.out).mono ?_);rintro e_ w144 ⟨rfl,ln_t46,hb_⟩;have LN_t46:=hid ln_t46;clear ln_t46;replace BKr:=hid (BKr.out.below hb_ BKr.out.lt);replace BKb5:=hid (BKb5.out.below hb_ BKb5.out.lt);replace HL:=hid (HL.out.below hb_ HL.out.size);clear hb_)
      |((with_reducible refine Qa (N:=6) rfl ?_);obtain ⟨gb49,hgb49⟩:∃ g_,w144.heap.size=g_:=⟨_,rfl⟩;refine Qq Jc gb49 hgb49 rfl rfl ?_;intro w145 hb_ hB_ hs_;have GEb49:Hid (w.heap.size≤gb49):=hid (by have:=HL.out.size;omega);have NBr_b49:Hid (g≠gb49):=hid (by have:=BKr.out.lt;omega);have NBb49_r:Hid (gb49≠g):=hid (by have:=NBr_b49.out;omega);replace BKr:=hid (BKr.out.below hb_ (by rw [← hgb49];exact BKr.out.lt));have NBb5_b49:Hid (gb5≠gb49):=hid (by have:=BKb5.out.lt;omega);have NBb49_b5:Hid (gb49≠gb5):=hid (by have:=NBb5_b49.out;omega);replace BKb5:=hid (BKb5.out.below hb_ (by rw [← hgb49];exact BKb5.out.lt));replace HL:=hid (HL.out.below hb_ (GEb49.out));have BKb49:=hid hB_;clear hb_ hB_ hs_ hgb49)
      |((with_reducible refine Qf (t:=24) (p:=6) rfl ?_);refine Qg Jc gb49 0 (bv zL) (bv t46) (bv t46) BKb49.out (by rw [show (bv t46)=av (Value.int .i8) t46 from rfl,Jh];exact LN_t46.out) (ZX Qh) (ZE (fun _=>rfl)) (ZL Qh LN_t46.out) rfl _ _ rfl rfl rfl ?_;intro w146 ho_ hB_;replace BKr:=hid (BKr.out.off ho_ NBr_b49.out);replace BKb5:=hid (BKb5.out.off ho_ NBb5_b49.out);replace HL:=hid (HL.out.off ho_ (.inr GEb49.out));replace BKb49:=hid hB_;clear ho_ hB_)
      |((with_reducible refine Qa (N:=49) rfl ?_);refine Qb (Pg g 1) (Qc 54 1 (Pg g 0) (Pg g 1) (JT g) _ rfl rfl) rfl ?_)
      |((with_reducible refine Qa (N:=50) rfl ?_);refine Qb (Ii s1) (Qd sT3 g (1) (Ii s1) ((yv [.string s0,Ii s1,Ii s2] (Value.int .i8) s3 [Ii s4,Ii s5,Ii s6,Ii s7,Ii s8,Ii s9,.bool s10,.bool s11,.bool s12,Ii s13,Ii s14,Ii s15,s16])) BKr.out ((QC (a:=3) rfl 1 (by decide)).trans rfl) _ rfl rfl) rfl ?_)
      |((with_reducible refine Qa (N:=55) rfl ?_);refine Qb (Pg g 1) (Qc 54 1 (Pg g 0) (Pg g 1) (JT g) _ rfl rfl) rfl ?_)
      |((with_reducible refine Qf (t:=3) (p:=55) rfl ?_);refine QH sT3 g (1) (Ii (wrap64 (s1+t47))) (yv [.string s0,Ii s1,Ii s2] (Value.int .i8) s3 [Ii s4,Ii s5,Ii s6,Ii s7,Ii s8,Ii s9,.bool s10,.bool s11,.bool s12,Ii s13,Ii s14,Ii s15,s16]) (yv [.string s0,Ii (wrap64 (s1+t47)),Ii s2] (Value.int .i8) s3 [Ii s4,Ii s5,Ii s6,Ii s7,Ii s8,Ii s9,.bool s10,.bool s11,.bool s12,Ii s13,Ii s14,Ii s15,s16]) BKr.out (Xm (a:=3) (n:=64) (c:=13) rfl LN_s3.out rfl (m:=1) (by decide)) rfl rfl ((Xr (a:=3) rfl 1 (by decide) _).trans rfl) rfl _ _ rfl rfl rfl ?_;intro w147 ho_ hB_;replace BKb5:=hid (BKb5.out.off ho_ NBb5_r.out);replace BKb49:=hid (BKb49.out.off ho_ NBb49_r.out);replace HL:=hid (HL.out.off ho_ (.inl rfl));replace BKr:=hid hB_;clear ho_ hB_)
      |((with_reducible refine Qa (N:=57) rfl ?_);refine Qb (Pg g 2) (Qc 54 2 (Pg g 0) (Pg g 2) (Jt g) _ rfl rfl) rfl ?_)
      |((with_reducible refine Qf (t:=33) (p:=57) rfl ?_);refine QH Zk g (2) (Ii t48) (yv [.string s0,Ii (wrap64 (s1+t47)),Ii s2] (Value.int .i8) s3 [Ii s4,Ii s5,Ii s6,Ii s7,Ii s8,Ii s9,.bool s10,.bool s11,.bool s12,Ii s13,Ii s14,Ii s15,s16]) (yv [.string s0,Ii (wrap64 (s1+t47)),Ii t48] (Value.int .i8) s3 [Ii s4,Ii s5,Ii s6,Ii s7,Ii s8,Ii s9,.bool s10,.bool s11,.bool s12,Ii s13,Ii s14,Ii s15,s16]) BKr.out (Xm (a:=3) (n:=64) (c:=13) rfl LN_s3.out rfl (m:=2) (by decide)) rfl rfl ((Xr (a:=3) rfl 2 (by decide) _).trans rfl) rfl _ _ rfl rfl rfl ?_;intro w148 ho_ hB_;replace BKb5:=hid (BKb5.out.off ho_ NBb5_r.out);replace BKb49:=hid (BKb49.out.off ho_ NBb49_r.out);replace HL:=hid (HL.out.off ho_ (.inl rfl));replace BKr:=hid hB_;clear ho_ hB_))
     (try simp only [Act.put,sI,sZ,sS])
     (first|go_end0|refine bodyPost_ret (results_none rfl _ _ _) rfl ?_)
     exact ⟨by first|rfl|(simp;done),LN_s3.out,(by exact BKr.out),HL.out⟩
    ·
     rw [if_neg c142] at H
     have c142b0:(t48==2)=false:=beq_eq_false_iff_ne.mpr c142
     have c142b1:(t48 != 2)=true:=bne_iff_ne.mpr c142
     have hc142:=hid c142
     clear c142
     by_cases c149:t4=0
     ·
      rw [if_pos c149] at H
      have c149b0:(t4==0)=true:=beq_iff_eq.mpr c149
      have c149b1:(t4 != 0)=false:=bne_eq_false_iff_eq.mpr c149
      have hc149:=hid c149
      clear c149
      by_cases c150:t48=0
      ·
       rw [if_pos c150] at H
       have c150b0:(t48==0)=true:=beq_iff_eq.mpr c150
       have c150b1:(t48 != 0)=false:=bne_eq_false_iff_eq.mpr c150
       have hc150:=hid c150
       clear c150
       replace H:=Ia H
       obtain ⟨⟨t50,t51,t52,t53,t54,t55,t56,t57,t58,t59,t60,t61,t62,t63,t64,t65,t66,t67⟩,A151_,H⟩:=H
       dsimp only at H
       have A151:=hid A151_
       clear A151_
       simp only [Option.some.injEq,Prod.mk.injEq] at H
       obtain ⟨rfl,rfl,rfl,rfl,rfl,rfl,rfl,rfl,rfl,rfl,rfl,rfl,rfl,rfl,rfl,rfl,rfl⟩:=H
       have k152:=True.intro
       have k157:=True.intro
       go_wp2_with (first
        |((with_reducible refine Qa (N:=29) rfl ?_);clear k152;refine Xp 49 #[.string t1] (Xe Tryz.func49 (by kernel_rfl) (by kernel_rfl) ((fnv a1)) (by rw [hc130.out];first|done|rfl) _ _ _ rfl rfl (by simp only [List.map_toArray,List.map_cons,List.map_nil];rfl)) rfl ((QW.c k t1 t46 t47 t48 _ A131.out).mono ?_);rintro e_ w153 ⟨rfl,ln_t46,hb_⟩;have LN_t46:=hid ln_t46;clear ln_t46;replace BKr:=hid (BKr.out.below hb_ BKr.out.lt);replace BKb5:=hid (BKb5.out.below hb_ BKb5.out.lt);replace HL:=hid (HL.out.below hb_ HL.out.size);clear hb_)
        |((with_reducible refine Qa (N:=6) rfl ?_);obtain ⟨gb49,hgb49⟩:∃ g_,w153.heap.size=g_:=⟨_,rfl⟩;refine Qq Jc gb49 hgb49 rfl rfl ?_;intro w154 hb_ hB_ hs_;have GEb49:Hid (w.heap.size≤gb49):=hid (by have:=HL.out.size;omega);have NBr_b49:Hid (g≠gb49):=hid (by have:=BKr.out.lt;omega);have NBb49_r:Hid (gb49≠g):=hid (by have:=NBr_b49.out;omega);replace BKr:=hid (BKr.out.below hb_ (by rw [← hgb49];exact BKr.out.lt));have NBb5_b49:Hid (gb5≠gb49):=hid (by have:=BKb5.out.lt;omega);have NBb49_b5:Hid (gb49≠gb5):=hid (by have:=NBb5_b49.out;omega);replace BKb5:=hid (BKb5.out.below hb_ (by rw [← hgb49];exact BKb5.out.lt));replace HL:=hid (HL.out.below hb_ (GEb49.out));have BKb49:=hid hB_;clear hb_ hB_ hs_ hgb49)
        |((with_reducible refine Qf (t:=24) (p:=6) rfl ?_);refine Qg Jc gb49 0 (bv zL) (bv t46) (bv t46) BKb49.out (by rw [show (bv t46)=av (Value.int .i8) t46 from rfl,Jh];exact LN_t46.out) (ZX Qh) (ZE (fun _=>rfl)) (ZL Qh LN_t46.out) rfl _ _ rfl rfl rfl ?_;intro w155 ho_ hB_;replace BKr:=hid (BKr.out.off ho_ NBr_b49.out);replace BKb5:=hid (BKb5.out.off ho_ NBb5_b49.out);replace HL:=hid (HL.out.off ho_ (.inr GEb49.out));replace BKb49:=hid hB_;clear ho_ hB_)
        |((with_reducible refine Qa (N:=59) rfl ?_);refine Qb (Pg gb5 2) (Qc 75 2 (Pg gb5 0) (Pg gb5 2) (Js gb5) _ rfl rfl) rfl ?_)
        |((with_reducible refine Qa (N:=60) rfl ?_);refine Qb (Ii t4) (Qd Zk gb5 (2) (Ii t4) (#[Ii t2,Ii t3,Ii t4]) BKb5.out rfl _ rfl rfl) rfl ?_)
        |((with_reducible refine Qa (N:=34) rfl ?_);refine Qb (.agg (bv t46)) (QI Jc gb49 0 (bv t46) (bv t46) BKb49.out (ZX LN_t46.out) (jV LN_t46.out) _ rfl rfl) rfl ?_)
        |((with_reducible refine Qa (N:=36) rfl ?_);refine Qb (Pg g 3) (Qc 54 3 (Pg g 0) (Pg g 3) (Xl g) _ rfl rfl) rfl ?_)
        |((with_reducible refine Qa (N:=37) rfl ?_);refine Qb (Pg g 3) (Qc 30 0 (Pg g 3) (Pg g 3) (KG g) _ rfl rfl) rfl ?_)
        |((with_reducible refine Qa (N:=38) rfl ?_);refine Qb (Pg g 3) (Qc 26 0 (Pg g 3) (Pg g 3) (xM g) _ rfl rfl) rfl ?_)
        |((with_reducible refine Qf (t:=24) (p:=38) rfl ?_);refine Qg Jc g 3 (yv [.string s0,Ii s1,Ii s2] (Value.int .i8) s3 [Ii s4,Ii s5,Ii s6,Ii s7,Ii s8,Ii s9,.bool s10,.bool s11,.bool s12,Ii s13,Ii s14,Ii s15,s16]) (bv t46) (yv [.string s0,Ii s1,Ii s2] (Value.int .i8) t46 [Ii s4,Ii s5,Ii s6,Ii s7,Ii s8,Ii s9,.bool s10,.bool s11,.bool s12,Ii s13,Ii s14,Ii s15,s16]) BKr.out (by rw [show (bv t46)=av (Value.int .i8) t46 from rfl,Jh];exact LN_t46.out) (zh (a:=3) (n:=64) (c:=13) rfl LN_s3.out rfl (m:=67) (by decide)) (ZE (fun _=>rfl)) (vV (a:=3) (n:=64) rfl LN_s3.out LN_t46.out) rfl _ _ rfl rfl rfl ?_;intro w156 ho_ hB_;replace BKb5:=hid (BKb5.out.off ho_ NBb5_r.out);replace BKb49:=hid (BKb49.out.off ho_ NBb49_r.out);replace HL:=hid (HL.out.off ho_ (.inl rfl));replace BKr:=hid hB_;clear ho_ hB_)
        |((with_reducible refine Qa (N:=40) rfl ?_);refine Qb (.agg #[Ii t2,Ii t3,Ii t4]) (QI Qs gb5 0 #[Ii t2,Ii t3,Ii t4] #[Ii t2,Ii t3,Ii t4] BKb5.out (by simp) rfl _ rfl rfl) rfl ?_)
        |(go_at_call 44;clear k157;refine (Ql.c s0 s1 s2 t46 s4 s5 s6 s7 s8 s9 s10 s11 s12 s13 s14 s15 s16 t2 t3 t4 LN_t46.out t50 t51 t52 t53 t54 t55 t56 t57 t58 t59 t60 t61 t62 t63 t64 t65 t66 t67 g _ BKr.out A151.out).mono ?_;rintro e_ w158 ⟨rfl,ln_t54,hB_,hx_⟩;have LN_t54:=hid ln_t54;clear ln_t54;replace BKb5:=hid (BKb5.out.bex hx_ BKb5.out.lt NBb5_r.out);replace BKb49:=hid (BKb49.out.bex hx_ BKb49.out.lt NBb49_r.out);replace HL:=hid (HL.out.bex hx_ HL.out.size (.inl rfl));replace BKr:=hid hB_;clear hx_ hB_))
       (try simp only [Act.put,sI,sZ,sS])
       (first|go_end0|refine bodyPost_ret (results_none rfl _ _ _) rfl ?_)
       exact ⟨by first|rfl|(simp;done),LN_t54.out,(by exact BKr.out),HL.out⟩
      ·
       rw [if_neg c150] at H
       have c150b0:(t48==0)=false:=beq_eq_false_iff_ne.mpr c150
       have c150b1:(t48 != 0)=true:=bne_iff_ne.mpr c150
       have hc150:=hid c150
       clear c150
       simp only [Option.some.injEq,Prod.mk.injEq] at H
       obtain ⟨rfl,rfl,rfl,rfl,rfl,rfl,rfl,rfl,rfl,rfl,rfl,rfl,rfl,rfl,rfl,rfl,rfl⟩:=H
       have k159:=True.intro
       go_wp2_with (first
        |((with_reducible refine Qa (N:=29) rfl ?_);clear k159;refine Xp 49 #[.string t1] (Xe Tryz.func49 (by kernel_rfl) (by kernel_rfl) ((fnv a1)) (by rw [hc130.out];first|done|rfl) _ _ _ rfl rfl (by simp only [List.map_toArray,List.map_cons,List.map_nil];rfl)) rfl ((QW.c k t1 t46 t47 t48 _ A131.out).mono ?_);rintro e_ w160 ⟨rfl,ln_t46,hb_⟩;have LN_t46:=hid ln_t46;clear ln_t46;replace BKr:=hid (BKr.out.below hb_ BKr.out.lt);replace BKb5:=hid (BKb5.out.below hb_ BKb5.out.lt);replace HL:=hid (HL.out.below hb_ HL.out.size);clear hb_)
        |((with_reducible refine Qa (N:=6) rfl ?_);obtain ⟨gb49,hgb49⟩:∃ g_,w160.heap.size=g_:=⟨_,rfl⟩;refine Qq Jc gb49 hgb49 rfl rfl ?_;intro w161 hb_ hB_ hs_;have GEb49:Hid (w.heap.size≤gb49):=hid (by have:=HL.out.size;omega);have NBr_b49:Hid (g≠gb49):=hid (by have:=BKr.out.lt;omega);have NBb49_r:Hid (gb49≠g):=hid (by have:=NBr_b49.out;omega);replace BKr:=hid (BKr.out.below hb_ (by rw [← hgb49];exact BKr.out.lt));have NBb5_b49:Hid (gb5≠gb49):=hid (by have:=BKb5.out.lt;omega);have NBb49_b5:Hid (gb49≠gb5):=hid (by have:=NBb5_b49.out;omega);replace BKb5:=hid (BKb5.out.below hb_ (by rw [← hgb49];exact BKb5.out.lt));replace HL:=hid (HL.out.below hb_ (GEb49.out));have BKb49:=hid hB_;clear hb_ hB_ hs_ hgb49)
        |((with_reducible refine Qf (t:=24) (p:=6) rfl ?_);refine Qg Jc gb49 0 (bv zL) (bv t46) (bv t46) BKb49.out (by rw [show (bv t46)=av (Value.int .i8) t46 from rfl,Jh];exact LN_t46.out) (ZX Qh) (ZE (fun _=>rfl)) (ZL Qh LN_t46.out) rfl _ _ rfl rfl rfl ?_;intro w162 ho_ hB_;replace BKr:=hid (BKr.out.off ho_ NBr_b49.out);replace BKb5:=hid (BKb5.out.off ho_ NBb5_b49.out);replace HL:=hid (HL.out.off ho_ (.inr GEb49.out));replace BKb49:=hid hB_;clear ho_ hB_)
        |((with_reducible refine Qa (N:=59) rfl ?_);refine Qb (Pg gb5 2) (Qc 75 2 (Pg gb5 0) (Pg gb5 2) (Js gb5) _ rfl rfl) rfl ?_)
        |((with_reducible refine Qa (N:=60) rfl ?_);refine Qb (Ii t4) (Qd Zk gb5 (2) (Ii t4) (#[Ii t2,Ii t3,Ii t4]) BKb5.out rfl _ rfl rfl) rfl ?_)
        |((with_reducible refine Qa (N:=72) rfl ?_);refine Qb (Pg g 1) (Qc 54 1 (Pg g 0) (Pg g 1) (JT g) _ rfl rfl) rfl ?_)
        |((with_reducible refine Qa (N:=73) rfl ?_);refine Qb (Ii s1) (Qd sT3 g (1) (Ii s1) ((yv [.string s0,Ii s1,Ii s2] (Value.int .i8) s3 [Ii s4,Ii s5,Ii s6,Ii s7,Ii s8,Ii s9,.bool s10,.bool s11,.bool s12,Ii s13,Ii s14,Ii s15,s16])) BKr.out ((QC (a:=3) rfl 1 (by decide)).trans rfl) _ rfl rfl) rfl ?_)
        |((with_reducible refine Qa (N:=77) rfl ?_);refine Qb (Pg g 1) (Qc 54 1 (Pg g 0) (Pg g 1) (JT g) _ rfl rfl) rfl ?_)
        |((with_reducible refine Qf (t:=3) (p:=77) rfl ?_);refine QH sT3 g (1) (Ii (wrap64 (s1+t47))) (yv [.string s0,Ii s1,Ii s2] (Value.int .i8) s3 [Ii s4,Ii s5,Ii s6,Ii s7,Ii s8,Ii s9,.bool s10,.bool s11,.bool s12,Ii s13,Ii s14,Ii s15,s16]) (yv [.string s0,Ii (wrap64 (s1+t47)),Ii s2] (Value.int .i8) s3 [Ii s4,Ii s5,Ii s6,Ii s7,Ii s8,Ii s9,.bool s10,.bool s11,.bool s12,Ii s13,Ii s14,Ii s15,s16]) BKr.out (Xm (a:=3) (n:=64) (c:=13) rfl LN_s3.out rfl (m:=1) (by decide)) rfl rfl ((Xr (a:=3) rfl 1 (by decide) _).trans rfl) rfl _ _ rfl rfl rfl ?_;intro w163 ho_ hB_;replace BKb5:=hid (BKb5.out.off ho_ NBb5_r.out);replace BKb49:=hid (BKb49.out.off ho_ NBb49_r.out);replace HL:=hid (HL.out.off ho_ (.inl rfl));replace BKr:=hid hB_;clear ho_ hB_)
        |((with_reducible refine Qa (N:=79) rfl ?_);refine Qb (Pg g 2) (Qc 54 2 (Pg g 0) (Pg g 2) (Jt g) _ rfl rfl) rfl ?_)
        |((with_reducible refine Qf (t:=33) (p:=79) rfl ?_);refine QH Zk g (2) (Ii 2) (yv [.string s0,Ii (wrap64 (s1+t47)),Ii s2] (Value.int .i8) s3 [Ii s4,Ii s5,Ii s6,Ii s7,Ii s8,Ii s9,.bool s10,.bool s11,.bool s12,Ii s13,Ii s14,Ii s15,s16]) (yv [.string s0,Ii (wrap64 (s1+t47)),Ii 2] (Value.int .i8) s3 [Ii s4,Ii s5,Ii s6,Ii s7,Ii s8,Ii s9,.bool s10,.bool s11,.bool s12,Ii s13,Ii s14,Ii s15,s16]) BKr.out (Xm (a:=3) (n:=64) (c:=13) rfl LN_s3.out rfl (m:=2) (by decide)) rfl rfl ((Xr (a:=3) rfl 2 (by decide) _).trans rfl) rfl _ _ rfl rfl rfl ?_;intro w164 ho_ hB_;replace BKb5:=hid (BKb5.out.off ho_ NBb5_r.out);replace BKb49:=hid (BKb49.out.off ho_ NBb49_r.out);replace HL:=hid (HL.out.off ho_ (.inl rfl));replace BKr:=hid hB_;clear ho_ hB_))
       (try simp only [Act.put,sI,sZ,sS])
       (first|go_end0|refine bodyPost_ret (results_none rfl _ _ _) rfl ?_)
       exact ⟨by first|rfl|(simp;done),LN_s3.out,(by exact BKr.out),HL.out⟩
     ·
      rw [if_neg c149] at H
      have c149b0:(t4==0)=false:=beq_eq_false_iff_ne.mpr c149
      have c149b1:(t4 != 0)=true:=bne_iff_ne.mpr c149
      have hc149:=hid c149
      clear c149
      replace H:=Ia H
      obtain ⟨⟨t68,t69,t70,t71,t72,t73,t74,t75,t76,t77,t78,t79,t80,t81,t82,t83,t84,t85⟩,A165_,H⟩:=H
      dsimp only at H
      have A165:=hid A165_
      clear A165_
      simp only [Option.some.injEq,Prod.mk.injEq] at H
      obtain ⟨rfl,rfl,rfl,rfl,rfl,rfl,rfl,rfl,rfl,rfl,rfl,rfl,rfl,rfl,rfl,rfl,rfl⟩:=H
      have k166:=True.intro
      have k170:=True.intro
      go_wp2_with (first
       |((with_reducible refine Qa (N:=29) rfl ?_);clear k166;refine Xp 49 #[.string t1] (Xe Tryz.func49 (by kernel_rfl) (by kernel_rfl) ((fnv a1)) (by rw [hc130.out];first|done|rfl) _ _ _ rfl rfl (by simp only [List.map_toArray,List.map_cons,List.map_nil];rfl)) rfl ((QW.c k t1 t46 t47 t48 _ A131.out).mono ?_);rintro e_ w167 ⟨rfl,ln_t46,hb_⟩;have LN_t46:=hid ln_t46;clear ln_t46;replace BKr:=hid (BKr.out.below hb_ BKr.out.lt);replace BKb5:=hid (BKb5.out.below hb_ BKb5.out.lt);replace HL:=hid (HL.out.below hb_ HL.out.size);clear hb_)
       |((with_reducible refine Qa (N:=6) rfl ?_);obtain ⟨gb49,hgb49⟩:∃ g_,w167.heap.size=g_:=⟨_,rfl⟩;refine Qq Jc gb49 hgb49 rfl rfl ?_;intro w168 hb_ hB_ hs_;have GEb49:Hid (w.heap.size≤gb49):=hid (by have:=HL.out.size;omega);have NBr_b49:Hid (g≠gb49):=hid (by have:=BKr.out.lt;omega);have NBb49_r:Hid (gb49≠g):=hid (by have:=NBr_b49.out;omega);replace BKr:=hid (BKr.out.below hb_ (by rw [← hgb49];exact BKr.out.lt));have NBb5_b49:Hid (gb5≠gb49):=hid (by have:=BKb5.out.lt;omega);have NBb49_b5:Hid (gb49≠gb5):=hid (by have:=NBb5_b49.out;omega);replace BKb5:=hid (BKb5.out.below hb_ (by rw [← hgb49];exact BKb5.out.lt));replace HL:=hid (HL.out.below hb_ (GEb49.out));have BKb49:=hid hB_;clear hb_ hB_ hs_ hgb49)
       |((with_reducible refine Qf (t:=24) (p:=6) rfl ?_);refine Qg Jc gb49 0 (bv zL) (bv t46) (bv t46) BKb49.out (by rw [show (bv t46)=av (Value.int .i8) t46 from rfl,Jh];exact LN_t46.out) (ZX Qh) (ZE (fun _=>rfl)) (ZL Qh LN_t46.out) rfl _ _ rfl rfl rfl ?_;intro w169 ho_ hB_;replace BKr:=hid (BKr.out.off ho_ NBr_b49.out);replace BKb5:=hid (BKb5.out.off ho_ NBb5_b49.out);replace HL:=hid (HL.out.off ho_ (.inr GEb49.out));replace BKb49:=hid hB_;clear ho_ hB_)
       |((with_reducible refine Qa (N:=59) rfl ?_);refine Qb (Pg gb5 2) (Qc 75 2 (Pg gb5 0) (Pg gb5 2) (Js gb5) _ rfl rfl) rfl ?_)
       |((with_reducible refine Qa (N:=60) rfl ?_);refine Qb (Ii t4) (Qd Zk gb5 (2) (Ii t4) (#[Ii t2,Ii t3,Ii t4]) BKb5.out rfl _ rfl rfl) rfl ?_)
       |((with_reducible refine Qa (N:=63) rfl ?_);refine Qb (.agg #[Ii t2,Ii t3,Ii t4]) (QI Qs gb5 0 #[Ii t2,Ii t3,Ii t4] #[Ii t2,Ii t3,Ii t4] BKb5.out (by simp) rfl _ rfl rfl) rfl ?_)
       |(go_at_call 44;clear k170;refine (Ql.c s0 s1 s2 s3 s4 s5 s6 s7 s8 s9 s10 s11 s12 s13 s14 s15 s16 t2 t3 t4 LN_s3.out t68 t69 t70 t71 t72 t73 t74 t75 t76 t77 t78 t79 t80 t81 t82 t83 t84 t85 g _ BKr.out A165.out).mono ?_;rintro e_ w171 ⟨rfl,ln_t72,hB_,hx_⟩;have LN_t72:=hid ln_t72;clear ln_t72;replace BKb5:=hid (BKb5.out.bex hx_ BKb5.out.lt NBb5_r.out);replace BKb49:=hid (BKb49.out.bex hx_ BKb49.out.lt NBb49_r.out);replace HL:=hid (HL.out.bex hx_ HL.out.size (.inl rfl));replace BKr:=hid hB_;clear hx_ hB_))
      (try simp only [Act.put,sI,sZ,sS])
      (first|go_end0|refine bodyPost_ret (results_none rfl _ _ _) rfl ?_)
      exact ⟨by first|rfl|(simp;done),LN_t72.out,(by exact BKr.out),HL.out⟩
   ·
    rw [if_neg c130] at H
    exact absurd H (by simp)
 ·
  rw [if_neg c86] at H
  have c86b0:(s2==0)=false:=beq_eq_false_iff_ne.mpr c86
  have c86b1:(s2 != 0)=true:=bne_iff_ne.mpr c86
  have hc86:=hid c86
  clear c86
  simp only [Option.some.injEq,Prod.mk.injEq] at H
  obtain ⟨rfl,rfl,rfl,rfl,rfl,rfl,rfl,rfl,rfl,rfl,rfl,rfl,rfl,rfl,rfl,rfl,rfl⟩:=H
  go_enter Tryz.func47,Tryz.ntmps47
  go_wp2_with (first
   |((with_reducible refine Qa (N:=11) rfl ?_);refine Qb (Pg g 2) (Qc 54 2 (Pg g 0) (Pg g 2) (Jt g) _ rfl rfl) rfl ?_)
   |((with_reducible refine Qa (N:=12) rfl ?_);refine Qb (Ii s2) (Qd Zk g (2) (Ii s2) ((yv [.string s0,Ii s1,Ii s2] (Value.int .i8) s3 [Ii s4,Ii s5,Ii s6,Ii s7,Ii s8,Ii s9,.bool s10,.bool s11,.bool s12,Ii s13,Ii s14,Ii s15,s16])) BKr.out ((QC (a:=3) rfl 2 (by decide)).trans rfl) _ rfl rfl) rfl ?_))
  (try simp only [Act.put,sI,sZ,sS])
  (first|go_end0|refine bodyPost_ret (results_none rfl _ _ _) rfl ?_)
  exact ⟨by first|rfl|(simp;done),LN_s3.out,(by exact BKr.out),HL.out⟩
mutual
def Qj.l0:Nat→Int→Int→ByteArray→Int→Int→List Int→Int→Int→Int→Int→Int→Int→Bool→Bool→Bool→Int→Int→Int→Value→Option (ByteArray×Int×Int×(List Int)×Int×Int×Int×Int×Int×Int×Bool×Bool×Bool×Int×Int×Int×Value)
 |0,_,_,_,_,_,_,_,_,_,_,_,_,_,_,_,_,_,_,_=>none
 |k+1,x2_0,x3_0,yr_0_0,yr_1_0,yr_2_0,yr_3_0,yr_4_0,yr_5_0,yr_6_0,yr_7_0,yr_8_0,yr_9_0,yr_10_0,yr_11_0,yr_12_0,yr_13_0,yr_14_0,yr_15_0,yr_16_0=>if yr_2_0=0 then (Qj.l1 k x2_0 x3_0 yr_0_0 yr_1_0 yr_2_0 yr_3_0 yr_4_0 yr_5_0 yr_6_0 yr_7_0 yr_8_0 yr_9_0 yr_10_0 yr_11_0 yr_12_0 yr_13_0 yr_14_0 yr_15_0 yr_16_0 ([]:List ByteArray) x2_0) else (some (yr_0_0,yr_1_0,yr_2_0,yr_3_0,yr_4_0,yr_5_0,yr_6_0,yr_7_0,yr_8_0,yr_9_0,yr_10_0,yr_11_0,yr_12_0,yr_13_0,yr_14_0,yr_15_0,yr_16_0))
def Qj.l1:Nat→Int→Int→ByteArray→Int→Int→List Int→Int→Int→Int→Int→Int→Int→Bool→Bool→Bool→Int→Int→Int→Value→List ByteArray→Int→Option (ByteArray×Int×Int×(List Int)×Int×Int×Int×Int×Int×Int×Bool×Bool×Bool×Int×Int×Int×Value)
 |0,_,_,_,_,_,_,_,_,_,_,_,_,_,_,_,_,_,_,_,_,_=>none
 |k+1,x2_0,x3_0,yr_0_0,yr_1_0,yr_2_0,yr_3_0,yr_4_0,yr_5_0,yr_6_0,yr_7_0,yr_8_0,yr_9_0,yr_10_0,yr_11_0,yr_12_0,yr_13_0,yr_14_0,yr_15_0,yr_16_0,x4_1,x5_1=>if x5_1<4 then (if 0≤x5_1 then (if x5_1≤(wrap64 (x5_1+1)) then (if (wrap64 (x5_1+1))≤4 then (if x4_1.length<8796093022208 then (Qj.l1 k x2_0 x3_0 yr_0_0 yr_1_0 yr_2_0 yr_3_0 yr_4_0 yr_5_0 yr_6_0 yr_7_0 yr_8_0 yr_9_0 yr_10_0 yr_11_0 yr_12_0 yr_13_0 yr_14_0 yr_15_0 yr_16_0 (x4_1++[(⟨#[75,81,107,113]⟩:ByteArray).extract (x5_1:Int).toNat ((wrap64 (x5_1+1)):Int).toNat]) (wrap64 (x5_1+1))) else (none)) else (none)) else (none)) else (none)) else (if x3_0>0 then (if x4_1.length<8796093022208 then ((Qt.f k yr_0_0 yr_1_0 yr_2_0 yr_3_0 yr_4_0 yr_5_0 yr_6_0 yr_7_0 yr_8_0 yr_9_0 yr_10_0 yr_11_0 yr_12_0 yr_13_0 yr_14_0 yr_15_0 yr_16_0 (x4_1++[(⟨#[10]⟩:ByteArray)])).bind fun bt137=>(if bt137.2.2.2.1=0 then (if 0≤bt137.1 then (if bt137.1<((x4_1++[(⟨#[10]⟩:ByteArray)]).length:Int) then (if (nt (x4_1++[(⟨#[10]⟩:ByteArray)]) bt137.1.toNat ByteArray.empty).toList=([10]:List UInt8) then (some (bt137.2.1,wrap64 (bt137.2.2.1-1),bt137.2.2.2.1,bt137.2.2.2.2.1,bt137.2.2.2.2.2.1,bt137.2.2.2.2.2.2.1,bt137.2.2.2.2.2.2.2.1,bt137.2.2.2.2.2.2.2.2.1,bt137.2.2.2.2.2.2.2.2.2.1,bt137.2.2.2.2.2.2.2.2.2.2.1,bt137.2.2.2.2.2.2.2.2.2.2.2.1,bt137.2.2.2.2.2.2.2.2.2.2.2.2.1,bt137.2.2.2.2.2.2.2.2.2.2.2.2.2.1,bt137.2.2.2.2.2.2.2.2.2.2.2.2.2.2.1,bt137.2.2.2.2.2.2.2.2.2.2.2.2.2.2.2.1,bt137.2.2.2.2.2.2.2.2.2.2.2.2.2.2.2.2.1,bt137.2.2.2.2.2.2.2.2.2.2.2.2.2.2.2.2.2)) else (if 0≤(wrap64 (x2_0+bt137.1)) then (if (wrap64 (x2_0+bt137.1))≤64 then ((some (wrap64 (1*2^(wrap64 (x2_0+bt137.1)).toNat))).bind fun s156=>(Qj.l0 k (wrap64 (x2_0+(wrap64 (bt137.1+1)))) (wrap64 (x3_0+1)) bt137.2.1 bt137.2.2.1 bt137.2.2.2.1 bt137.2.2.2.2.1 bt137.2.2.2.2.2.1 (Go.bits .or .i64 bt137.2.2.2.2.2.2.1 s156) bt137.2.2.2.2.2.2.2.1 bt137.2.2.2.2.2.2.2.2.1 bt137.2.2.2.2.2.2.2.2.2.1 bt137.2.2.2.2.2.2.2.2.2.2.1 bt137.2.2.2.2.2.2.2.2.2.2.2.1 bt137.2.2.2.2.2.2.2.2.2.2.2.2.1 bt137.2.2.2.2.2.2.2.2.2.2.2.2.2.1 bt137.2.2.2.2.2.2.2.2.2.2.2.2.2.2.1 bt137.2.2.2.2.2.2.2.2.2.2.2.2.2.2.2.1 bt137.2.2.2.2.2.2.2.2.2.2.2.2.2.2.2.2.1 bt137.2.2.2.2.2.2.2.2.2.2.2.2.2.2.2.2.2)) else (none)) else (none))) else (none)) else (none)) else (some (bt137.2.1,bt137.2.2.1,bt137.2.2.2.1,bt137.2.2.2.2.1,bt137.2.2.2.2.2.1,bt137.2.2.2.2.2.2.1,bt137.2.2.2.2.2.2.2.1,bt137.2.2.2.2.2.2.2.2.1,bt137.2.2.2.2.2.2.2.2.2.1,bt137.2.2.2.2.2.2.2.2.2.2.1,bt137.2.2.2.2.2.2.2.2.2.2.2.1,bt137.2.2.2.2.2.2.2.2.2.2.2.2.1,bt137.2.2.2.2.2.2.2.2.2.2.2.2.2.1,bt137.2.2.2.2.2.2.2.2.2.2.2.2.2.2.1,bt137.2.2.2.2.2.2.2.2.2.2.2.2.2.2.2.1,bt137.2.2.2.2.2.2.2.2.2.2.2.2.2.2.2.2.1,bt137.2.2.2.2.2.2.2.2.2.2.2.2.2.2.2.2.2)))) else (none)) else ((Qt.f k yr_0_0 yr_1_0 yr_2_0 yr_3_0 yr_4_0 yr_5_0 yr_6_0 yr_7_0 yr_8_0 yr_9_0 yr_10_0 yr_11_0 yr_12_0 yr_13_0 yr_14_0 yr_15_0 yr_16_0 x4_1).bind fun bt157=>(if bt157.2.2.2.1=0 then (if 0≤bt157.1 then (if bt157.1<(x4_1.length:Int) then (if (nt x4_1 bt157.1.toNat ByteArray.empty).toList=([10]:List UInt8) then (some (bt157.2.1,wrap64 (bt157.2.2.1-1),bt157.2.2.2.1,bt157.2.2.2.2.1,bt157.2.2.2.2.2.1,bt157.2.2.2.2.2.2.1,bt157.2.2.2.2.2.2.2.1,bt157.2.2.2.2.2.2.2.2.1,bt157.2.2.2.2.2.2.2.2.2.1,bt157.2.2.2.2.2.2.2.2.2.2.1,bt157.2.2.2.2.2.2.2.2.2.2.2.1,bt157.2.2.2.2.2.2.2.2.2.2.2.2.1,bt157.2.2.2.2.2.2.2.2.2.2.2.2.2.1,bt157.2.2.2.2.2.2.2.2.2.2.2.2.2.2.1,bt157.2.2.2.2.2.2.2.2.2.2.2.2.2.2.2.1,bt157.2.2.2.2.2.2.2.2.2.2.2.2.2.2.2.2.1,bt157.2.2.2.2.2.2.2.2.2.2.2.2.2.2.2.2.2)) else (if 0≤(wrap64 (x2_0+bt157.1)) then (if (wrap64 (x2_0+bt157.1))≤64 then ((some (wrap64 (1*2^(wrap64 (x2_0+bt157.1)).toNat))).bind fun s176=>(Qj.l0 k (wrap64 (x2_0+(wrap64 (bt157.1+1)))) (wrap64 (x3_0+1)) bt157.2.1 bt157.2.2.1 bt157.2.2.2.1 bt157.2.2.2.2.1 bt157.2.2.2.2.2.1 (Go.bits .or .i64 bt157.2.2.2.2.2.2.1 s176) bt157.2.2.2.2.2.2.2.1 bt157.2.2.2.2.2.2.2.2.1 bt157.2.2.2.2.2.2.2.2.2.1 bt157.2.2.2.2.2.2.2.2.2.2.1 bt157.2.2.2.2.2.2.2.2.2.2.2.1 bt157.2.2.2.2.2.2.2.2.2.2.2.2.1 bt157.2.2.2.2.2.2.2.2.2.2.2.2.2.1 bt157.2.2.2.2.2.2.2.2.2.2.2.2.2.2.1 bt157.2.2.2.2.2.2.2.2.2.2.2.2.2.2.2.1 bt157.2.2.2.2.2.2.2.2.2.2.2.2.2.2.2.2.1 bt157.2.2.2.2.2.2.2.2.2.2.2.2.2.2.2.2.2)) else (none)) else (none))) else (none)) else (none)) else (some (bt157.2.1,bt157.2.2.1,bt157.2.2.2.1,bt157.2.2.2.2.1,bt157.2.2.2.2.2.1,bt157.2.2.2.2.2.2.1,bt157.2.2.2.2.2.2.2.1,bt157.2.2.2.2.2.2.2.2.1,bt157.2.2.2.2.2.2.2.2.2.1,bt157.2.2.2.2.2.2.2.2.2.2.1,bt157.2.2.2.2.2.2.2.2.2.2.2.1,bt157.2.2.2.2.2.2.2.2.2.2.2.2.1,bt157.2.2.2.2.2.2.2.2.2.2.2.2.2.1,bt157.2.2.2.2.2.2.2.2.2.2.2.2.2.2.1,bt157.2.2.2.2.2.2.2.2.2.2.2.2.2.2.2.1,bt157.2.2.2.2.2.2.2.2.2.2.2.2.2.2.2.2.1,bt157.2.2.2.2.2.2.2.2.2.2.2.2.2.2.2.2.2)))))
end
def Qj.f(k:Nat)(s0:ByteArray)(s1 s2:Int)(s3:List Int)(s4 s5 s6 s7 s8 s9:Int)(s10 s11 s12:Bool)(s13 s14 s15:Int)(s16:Value):Option (ByteArray×Int×Int×(List Int)×Int×Int×Int×Int×Int×Int×Bool×Bool×Bool×Int×Int×Int×Value):=Qj.l0 k 0 0 s0 s1 s2 s3 s4 s5 s6 s7 s8 s9 s10 s11 s12 s13 s14 s15 s16
theorem Qj.c(k:Nat)(s0:ByteArray)(s1 s2:Int)(s3:List Int)(s4 s5 s6 s7 s8 s9:Int)(s10 s11 s12:Bool)(s13 s14 s15:Int)(s16:Value)(hls3:s3.length=64)(q0:ByteArray)(q1 q2:Int)(q3:List Int)(q4 q5 q6 q7 q8 q9:Int)(q10 q11 q12:Bool)(q13 q14 q15:Int)(q16:Value)(g:Nat)(w:World)(hB:Blk w g 54 (yv [.string s0,Ii s1,Ii s2] (Value.int .i8) s3 [Ii s4,Ii s5,Ii s6,Ii s7,Ii s8,Ii s9,.bool s10,.bool s11,.bool s12,Ii s13,Ii s14,Ii s15,s16]))(h:Qj.f k s0 s1 s2 s3 s4 s5 s6 s7 s8 s9 s10 s11 s12 s13 s14 s15 s16=some (q0,q1,q2,q3,q4,q5,q6,q7,q8,q9,q10,q11,q12,q13,q14,q15,q16)):
 Calls Tryz.prog 42 #[Pg g 0] w fun e w'=>e=.returned (.tuple #[])∧q3.length=64∧Blk w' g 54 (yv [.string q0,Ii q1,Ii q2] (Value.int .i8) q3 [Ii q4,Ii q5,Ii q6,Ii q7,Ii q8,Ii q9,.bool q10,.bool q11,.bool q12,Ii q13,Ii q14,Ii q15,q16])∧Bex g w.heap.size w w':=by
 have LN_s3:=hid hls3
 clear hls3
 have BKr:=hid hB
 clear hB
 have HL:=hid (Bex.refl g w.heap.size w)
 have H:(Qj.l0 k 0 0 s0 s1 s2 s3 s4 s5 s6 s7 s8 s9 s10 s11 s12 s13 s14 s15 s16)=some (q0,q1,q2,q3,q4,q5,q6,q7,q8,q9,q10,q11,q12,q13,q14,q15,q16):=h
 clear h
 have H':=hid H
 clear H
 go_enter Tryz.func42,Tryz.ntmps42
 go_wp2_with fail
 (try simp only [Act.put,sI,sZ,sS])
 go_loopg [2,3] k (fun kq v2 v3 w'=>∃ (x2_0:Int) (x3_0:Int) (yr_0_0:ByteArray) (yr_1_0:Int) (yr_2_0:Int) (yr_3_0:List Int) (yr_4_0:Int) (yr_5_0:Int) (yr_6_0:Int) (yr_7_0:Int) (yr_8_0:Int) (yr_9_0:Int) (yr_10_0:Bool) (yr_11_0:Bool) (yr_12_0:Bool) (yr_13_0:Int) (yr_14_0:Int) (yr_15_0:Int) (yr_16_0:Value),v2=Ii x2_0∧v3=Ii x3_0∧Hid (Qj.l0 kq x2_0 x3_0 yr_0_0 yr_1_0 yr_2_0 yr_3_0 yr_4_0 yr_5_0 yr_6_0 yr_7_0 yr_8_0 yr_9_0 yr_10_0 yr_11_0 yr_12_0 yr_13_0 yr_14_0 yr_15_0 yr_16_0=some (q0,q1,q2,q3,q4,q5,q6,q7,q8,q9,q10,q11,q12,q13,q14,q15,q16))∧Hid (kq≤k)∧Hid (yr_3_0.length=64)∧Hid (Blk w' g 54 (yv [.string yr_0_0,Ii yr_1_0,Ii yr_2_0] (Value.int .i8) yr_3_0 [Ii yr_4_0,Ii yr_5_0,Ii yr_6_0,Ii yr_7_0,Ii yr_8_0,Ii yr_9_0,.bool yr_10_0,.bool yr_11_0,.bool yr_12_0,Ii yr_13_0,Ii yr_14_0,Ii yr_15_0,yr_16_0]))∧Hid (Bex g w.heap.size w w'))
 case atStart=>exact ⟨(0:Int),(0:Int),s0,s1,s2,s3,s4,s5,s6,s7,s8,s9,s10,s11,s12,s13,s14,s15,s16,(by first|rfl|(simp;done)|(simp [*];done)),(by first|rfl|(simp;done)|(simp [*];done)),H',(hid (by first|omega|(omega))),(hid (by first|rfl|(simp only [List.length_set,List.length_replicate,Qh,List.length_cons,List.length_nil,LN_s3.out];done)|(simp [Qh,LN_s3.out];done))),(hid (by exact BKr.out)),HL⟩
 case round=>
  clear H'
  clear HL BKr
  obtain ⟨x2_0,x3_0,yr_0_0,yr_1_0,yr_2_0,yr_3_0,yr_4_0,yr_5_0,yr_6_0,yr_7_0,yr_8_0,yr_9_0,yr_10_0,yr_11_0,yr_12_0,yr_13_0,yr_14_0,yr_15_0,yr_16_0,rfl,rfl,HA,HK177,LN_yr_3_0,BKr,HL⟩:=hrel
  cases gk with
  |zero=>exact absurd HA.out (by simp [Qj.l0])
  |succ k178=>
   have H:=HA.out
   clear HA
   simp only [Qj.l0] at H
   by_cases c179:yr_2_0=0
   ·
    rw [if_pos c179] at H
    have c179b0:(yr_2_0==0)=true:=beq_iff_eq.mpr c179
    have c179b1:(yr_2_0 != 0)=false:=bne_eq_false_iff_eq.mpr c179
    have hc179:=hid c179
    clear c179
    have H':=hid H
    clear H
    go_wp2_with (first
     |((with_reducible refine Qa (N:=9) rfl ?_);refine Qb (Pg g 2) (Qc 54 2 (Pg g 0) (Pg g 2) (Jt g) _ rfl rfl) rfl ?_)
     |((with_reducible refine Qa (N:=10) rfl ?_);refine Qb (Ii yr_2_0) (Qd Zk g (2) (Ii yr_2_0) ((yv [.string yr_0_0,Ii yr_1_0,Ii yr_2_0] (Value.int .i8) yr_3_0 [Ii yr_4_0,Ii yr_5_0,Ii yr_6_0,Ii yr_7_0,Ii yr_8_0,Ii yr_9_0,.bool yr_10_0,.bool yr_11_0,.bool yr_12_0,Ii yr_13_0,Ii yr_14_0,Ii yr_15_0,yr_16_0])) BKr.out ((QC (a:=3) rfl 2 (by decide)).trans rfl) _ rfl rfl) rfl ?_))
    (try simp only [Act.put,sI,sZ,sS])
    go_loopg [4,5] k178 (fun kq v4 v5 w'=>∃ (x4_1:List ByteArray) (ux4_1:Value) (x5_1:Int),ux4_1=v4∧v5=Ii x5_1∧Hid (Qj.l1 kq x2_0 x3_0 yr_0_0 yr_1_0 yr_2_0 yr_3_0 yr_4_0 yr_5_0 yr_6_0 yr_7_0 yr_8_0 yr_9_0 yr_10_0 yr_11_0 yr_12_0 yr_13_0 yr_14_0 yr_15_0 yr_16_0 x4_1 x5_1=some (q0,q1,q2,q3,q4,q5,q6,q7,q8,q9,q10,q11,q12,q13,q14,q15,q16))∧Hid (kq≤k178)∧Hid (Blk w' g 54 (yv [.string yr_0_0,Ii yr_1_0,Ii yr_2_0] (Value.int .i8) yr_3_0 [Ii yr_4_0,Ii yr_5_0,Ii yr_6_0,Ii yr_7_0,Ii yr_8_0,Ii yr_9_0,.bool yr_10_0,.bool yr_11_0,.bool yr_12_0,Ii yr_13_0,Ii yr_14_0,Ii yr_15_0,yr_16_0]))∧Hid (Own w' w.heap.size 9 (ux4_1) (x4_1.map Value.string))∧Hid (Bex g w.heap.size w w'))
    case atStart=>exact ⟨([]:List ByteArray),(.slice none 0 0),x2_0,(by first|rfl|(simp;done)|(simp [*];done)),(by first|rfl|(simp;done)|(simp [*];done)),H',(hid (by first|omega|(have:=HK177.out;omega))),(hid (by exact BKr.out)),(hid (Own.nil _ _ _)),HL⟩
    case round=>
     clear H'
     clear HL BKr
     obtain ⟨x4_1,ux4_1,x5_1,rfl,rfl,HA,HK180,BKr,SWx4_1,HL⟩:=hrel
     cases gk with
     |zero=>exact absurd HA.out (by simp [Qj.l1])
     |succ k181=>
      have H:=HA.out
      clear HA
      simp only [Qj.l1] at H
      by_cases c182:x5_1<4
      ·
       rw [if_pos c182] at H
       have c182b0:decide (x5_1<4)=true:=decide_eq_true c182
       have hc182:=hid c182
       clear c182
       by_cases c183:0≤x5_1
       ·
        rw [if_pos c183] at H
        have c183b0:decide (0≤x5_1)=true:=decide_eq_true c183
        have hc183:=hid c183
        clear c183
        by_cases c184:x5_1≤(wrap64 (x5_1+1))
        ·
         rw [if_pos c184] at H
         have c184b0:decide (x5_1≤(wrap64 (x5_1+1)))=true:=decide_eq_true c184
         have hc184:=hid c184
         clear c184
         by_cases c185:(wrap64 (x5_1+1))≤4
         ·
          rw [if_pos c185] at H
          have c185b0:decide ((wrap64 (x5_1+1))≤4)=true:=decide_eq_true c185
          have hc185:=hid c185
          clear c185
          by_cases c186:x4_1.length<8796093022208
          ·
           rw [if_pos c186] at H
           have c186b0:decide (x4_1.length<8796093022208)=true:=decide_eq_true c186
           have hc186:=hid c186
           clear c186
           have H':=hid H
           clear H
           have k189:=True.intro
           go_wp2_with (first
            |((with_reducible refine Qa (N:=23) rfl ?_);refine Qb (.string ((⟨#[75,81,107,113]⟩:ByteArray).extract (x5_1:Int).toNat ((wrap64 (x5_1+1)):Int).toNat)) (qz 9 JV (⟨#[75,81,107,113]⟩:ByteArray) x5_1 (wrap64 (x5_1+1)) hc183.out hc184.out hc185.out _ _ _ rfl rfl rfl rfl) rfl ?_)
            |((with_reducible refine Qa (N:=24) rfl ?_);obtain ⟨gb133,hgb133⟩:∃ g_,wr.heap.size=g_:=⟨_,rfl⟩;refine VA sT9 (.string ((⟨#[75,81,107,113]⟩:ByteArray).extract (x5_1:Int).toNat ((wrap64 (x5_1+1)):Int).toNat)) gb133 hgb133 rfl _ rfl rfl (fun w_=>by kernel_rfl) ?_;intro w187 hb_ hB_ hs_;have GEb133:Hid (w.heap.size≤gb133):=hid (by have:=HL.out.size;omega);have NBr_b133:Hid (g≠gb133):=hid (by have:=BKr.out.lt;omega);have NBb133_r:Hid (gb133≠g):=hid (by have:=NBr_b133.out;omega);replace BKr:=hid (BKr.out.below hb_ (by rw [← hgb133];exact BKr.out.lt));replace SWx4_1:=hid (SWx4_1.out.below (by rw [hgb133];exact hb_));replace HL:=hid (HL.out.below hb_ (GEb133.out));have BKb133:=hid hB_;clear hb_ hB_ hs_ hgb133)
            |(at_builtin;clear k189;refine KL xr w.heap.size (ux4_1) (x4_1.map Value.string) (.string ((⟨#[75,81,107,113]⟩:ByteArray).extract (x5_1:Int).toNat ((wrap64 (x5_1+1)):Int).toNat)) gb133 1 SWx4_1.out BKb133.out rfl (by have h_:=hc186.out;rw [List.length_map];omega) (by have h_:=hc186.out;rw [List.length_map];unfold maxLen;omega) HL.out.size rfl _ _ rfl rfl rfl ?_;intro uo134 w188 ho_ hb_ hk_ hi_;clear SWx4_1;have SWo134:Hid (Own w188 w.heap.size 9 (uo134) ((x4_1++[(⟨#[75,81,107,113]⟩:ByteArray).extract (x5_1:Int).toNat ((wrap64 (x5_1+1)):Int).toNat]).map Value.string)):=hid (by rw [List.map_append];exact ho_);replace BKr:=hid (hk_ _ _ _ (by decide) BKr.out);replace HL:=hid (HL.out.below hb_ (Nat.le_refl _));clear ho_ hb_ hk_ hi_ BKb133))
           (try simp only [Act.put,sI,sZ,sS])
           go_roundg k181
           case measure=>have:=HK177.out;have:=HK180.out;omega
           case rel=>exact ⟨x4_1++[(⟨#[75,81,107,113]⟩:ByteArray).extract (x5_1:Int).toNat ((wrap64 (x5_1+1)):Int).toNat],(uo134),wrap64 (x5_1+1),(by first|rfl|(simp;done)|(simp [*];done)),(by first|rfl|(simp;done)|(simp [*];done)),H',(hid (by first|omega|(have:=HK177.out;have:=HK180.out;omega))),(hid (by exact BKr.out)),SWo134,HL⟩
          ·
           rw [if_neg c186] at H
           exact absurd H (by simp)
         ·
          rw [if_neg c185] at H
          exact absurd H (by simp)
        ·
         rw [if_neg c184] at H
         exact absurd H (by simp)
       ·
        rw [if_neg c183] at H
        exact absurd H (by simp)
      ·
       rw [if_neg c182] at H
       have c182b0:decide (x5_1<4)=false:=decide_eq_false c182
       have hc182:=hid c182
       clear c182
       by_cases c190:x3_0>0
       ·
        rw [if_pos c190] at H
        have c190b0:decide (0<x3_0)=true:=decide_eq_true c190
        have hc190:=hid c190
        clear c190
        by_cases c191:x4_1.length<8796093022208
        ·
         rw [if_pos c191] at H
         have c191b0:decide (x4_1.length<8796093022208)=true:=decide_eq_true c191
         have hc191:=hid c191
         clear c191
         replace H:=Ia H
         obtain ⟨⟨t137,t138,t139,t140,t141,t142,t143,t144,t145,t146,t147,t148,t149,t150,t151,t152,t153,t154⟩,A192_,H⟩:=H
         dsimp only at H
         have A192:=hid A192_
         clear A192_
         by_cases c193:t140=0
         ·
          rw [if_pos c193] at H
          have c193b0:(t140==0)=true:=beq_iff_eq.mpr c193
          have c193b1:(t140 != 0)=false:=bne_eq_false_iff_eq.mpr c193
          have hc193:=hid c193
          clear c193
          by_cases c194:0≤t137
          ·
           rw [if_pos c194] at H
           have c194b0:decide (0≤t137)=true:=decide_eq_true c194
           have hc194:=hid c194
           clear c194
           by_cases c195:t137<((x4_1++[(⟨#[10]⟩:ByteArray)]).length:Int)
           ·
            rw [if_pos c195] at H
            have c195b0:decide (t137<((x4_1++[(⟨#[10]⟩:ByteArray)]).length:Int))=true:=decide_eq_true c195
            have hc195:=hid c195
            clear c195
            by_cases c196:(nt (x4_1++[(⟨#[10]⟩:ByteArray)]) t137.toNat ByteArray.empty).toList=([10]:List UInt8)
            ·
             rw [if_pos c196] at H
             have c196b0:((nt (x4_1++[(⟨#[10]⟩:ByteArray)]) t137.toNat ByteArray.empty).toList==([10]:List UInt8))=true:=beq_iff_eq.mpr c196
             have c196b1:((nt (x4_1++[(⟨#[10]⟩:ByteArray)]) t137.toNat ByteArray.empty).toList != ([10]:List UInt8))=false:=bne_eq_false_iff_eq.mpr c196
             have hc196:=hid c196
             clear c196
             simp only [Option.some.injEq,Prod.mk.injEq] at H
             obtain ⟨rfl,rfl,rfl,rfl,rfl,rfl,rfl,rfl,rfl,rfl,rfl,rfl,rfl,rfl,rfl,rfl,rfl⟩:=H
             have k199:=True.intro
             have k200:=True.intro
             go_wp2_with (first
              |((with_reducible refine Qa (N:=29) rfl ?_);obtain ⟨gb135,hgb135⟩:∃ g_,wr.heap.size=g_:=⟨_,rfl⟩;refine VA sT9 (.string (⟨#[10]⟩:ByteArray)) gb135 hgb135 rfl _ rfl rfl (fun w_=>by kernel_rfl) ?_;intro w197 hb_ hB_ hs_;have GEb135:Hid (w.heap.size≤gb135):=hid (by have:=HL.out.size;omega);have NBr_b135:Hid (g≠gb135):=hid (by have:=BKr.out.lt;omega);have NBb135_r:Hid (gb135≠g):=hid (by have:=NBr_b135.out;omega);replace BKr:=hid (BKr.out.below hb_ (by rw [← hgb135];exact BKr.out.lt));replace SWx4_1:=hid (SWx4_1.out.below (by rw [hgb135];exact hb_));replace HL:=hid (HL.out.below hb_ (GEb135.out));have BKb135:=hid hB_;clear hb_ hB_ hs_ hgb135)
              |(at_builtin;clear k199;refine KL xr w.heap.size (ux4_1) (x4_1.map Value.string) (.string (⟨#[10]⟩:ByteArray)) gb135 1 SWx4_1.out BKb135.out rfl (by have h_:=hc191.out;rw [List.length_map];omega) (by have h_:=hc191.out;rw [List.length_map];unfold maxLen;omega) HL.out.size rfl _ _ rfl rfl rfl ?_;intro uo136 w198 ho_ hb_ hk_ hi_;clear SWx4_1;have SWo136:Hid (Own w198 w.heap.size 9 (uo136) ((x4_1++[(⟨#[10]⟩:ByteArray)]).map Value.string)):=hid (by rw [List.map_append];exact ho_);replace BKr:=hid (hk_ _ _ _ (by decide) BKr.out);replace HL:=hid (HL.out.below hb_ (Nat.le_refl _));clear ho_ hb_ hk_ hi_ BKb135)
              |(go_at_call 37;clear k200;refine (Qt.c k181 yr_0_0 yr_1_0 yr_2_0 yr_3_0 yr_4_0 yr_5_0 yr_6_0 yr_7_0 yr_8_0 yr_9_0 yr_10_0 yr_11_0 yr_12_0 yr_13_0 yr_14_0 yr_15_0 yr_16_0 (uo136) (x4_1++[(⟨#[10]⟩:ByteArray)]) LN_yr_3_0.out t137 t138 t139 t140 t141 t142 t143 t144 t145 t146 t147 t148 t149 t150 t151 t152 t153 t154 g _ BKr.out SWo136.out.slT A192.out).mono ?_;rintro e_ w201 ⟨rfl,ln_t141,hB_,hx_⟩;have LN_t141:=hid ln_t141;clear ln_t141;replace SWo136:=hid (SWo136.out.bex hx_ (Nat.le_refl _) BKr.out (by decide));replace HL:=hid (HL.out.bex hx_ HL.out.size (.inl rfl));replace BKr:=hid hB_;clear hx_ hB_)
              |((with_reducible refine Qa (N:=36) rfl ?_);refine Qb (Pg g 2) (Qc 54 2 (Pg g 0) (Pg g 2) (Jt g) _ rfl rfl) rfl ?_)
              |((with_reducible refine Qa (N:=37) rfl ?_);refine Qb (Ii t140) (Qd Zk g (2) (Ii t140) ((yv [.string t138,Ii t139,Ii t140] (Value.int .i8) t141 [Ii t142,Ii t143,Ii t144,Ii t145,Ii t146,Ii t147,.bool t148,.bool t149,.bool t150,Ii t151,Ii t152,Ii t153,t154])) BKr.out ((QC (a:=3) rfl 2 (by decide)).trans rfl) _ rfl rfl) rfl ?_)
              |((with_reducible refine Qa (N:=41) rfl ?_);obtain ⟨ad155,c202,hv203,HCad155_⟩:=Sl.get (l:=x4_1++[(⟨#[10]⟩:ByteArray)]) (f:=Value.string) SWo136.out.sl ByteArray.empty (i:=t137) hc194.out hc195.out;have HCad155:=hid HCad155_;clear HCad155_;refine Qb (.pointer (some (ad155.add t137.toNat))) (XO _ _ t137 _ _ hv203 hc194.out hc195.out VE sT9 _ _ rfl rfl rfl) rfl ?_;have HVAad155:=hid hv203;clear hv203)
              |((with_reducible refine Qa (N:=42) rfl ?_);refine Qb (.string (nt (x4_1++[(⟨#[10]⟩:ByteArray)]) t137.toNat ByteArray.empty)) (ZB sT9 _ _ HCad155.out _ rfl rfl) rfl ?_)
              |((with_reducible refine Qa (N:=46) rfl ?_);refine Qb (Pg g 1) (Qc 54 1 (Pg g 0) (Pg g 1) (JT g) _ rfl rfl) rfl ?_)
              |((with_reducible refine Qa (N:=47) rfl ?_);refine Qb (Ii t139) (Qd sT3 g (1) (Ii t139) ((yv [.string t138,Ii t139,Ii t140] (Value.int .i8) t141 [Ii t142,Ii t143,Ii t144,Ii t145,Ii t146,Ii t147,.bool t148,.bool t149,.bool t150,Ii t151,Ii t152,Ii t153,t154])) BKr.out ((QC (a:=3) rfl 1 (by decide)).trans rfl) _ rfl rfl) rfl ?_)
              |((with_reducible refine Qa (N:=50) rfl ?_);refine Qb (Pg g 1) (Qc 54 1 (Pg g 0) (Pg g 1) (JT g) _ rfl rfl) rfl ?_)
              |((with_reducible refine Qf (t:=3) (p:=50) rfl ?_);refine QH sT3 g (1) (Ii (wrap64 (t139-1))) (yv [.string t138,Ii t139,Ii t140] (Value.int .i8) t141 [Ii t142,Ii t143,Ii t144,Ii t145,Ii t146,Ii t147,.bool t148,.bool t149,.bool t150,Ii t151,Ii t152,Ii t153,t154]) (yv [.string t138,Ii (wrap64 (t139-1)),Ii t140] (Value.int .i8) t141 [Ii t142,Ii t143,Ii t144,Ii t145,Ii t146,Ii t147,.bool t148,.bool t149,.bool t150,Ii t151,Ii t152,Ii t153,t154]) BKr.out (Xm (a:=3) (n:=64) (c:=13) rfl LN_t141.out rfl (m:=1) (by decide)) rfl rfl ((Xr (a:=3) rfl 1 (by decide) _).trans rfl) rfl _ _ rfl rfl rfl ?_;intro w204 ho_ hB_;replace SWo136:=hid (SWo136.out.off ho_ BKr.out (by decide));replace HL:=hid (HL.out.off ho_ (.inl rfl));replace BKr:=hid hB_;clear ho_ hB_))
             (try simp only [Act.put,sI,sZ,sS])
             (first|go_end0|refine bodyPost_ret (results_none rfl _ _ _) rfl ?_)
             exact ⟨by first|rfl|(simp;done),LN_t141.out,(by exact BKr.out),HL.out⟩
            ·
             rw [if_neg c196] at H
             have c196b0:((nt (x4_1++[(⟨#[10]⟩:ByteArray)]) t137.toNat ByteArray.empty).toList==([10]:List UInt8))=false:=beq_eq_false_iff_ne.mpr c196
             have c196b1:((nt (x4_1++[(⟨#[10]⟩:ByteArray)]) t137.toNat ByteArray.empty).toList != ([10]:List UInt8))=true:=bne_iff_ne.mpr c196
             have hc196:=hid c196
             clear c196
             by_cases c205:0≤(wrap64 (x2_0+t137))
             ·
              rw [if_pos c205] at H
              have c205b0:decide (0≤(wrap64 (x2_0+t137)))=true:=decide_eq_true c205
              have hc205:=hid c205
              clear c205
              by_cases c206:(wrap64 (x2_0+t137))≤64
              ·
               rw [if_pos c206] at H
               have c206b0:decide ((wrap64 (x2_0+t137))≤64)=true:=decide_eq_true c206
               have hc206:=hid c206
               clear c206
               replace H:=Ia H
               obtain ⟨s156,A207_,H⟩:=H
               have A207:=hid A207_
               clear A207_
               have H':=hid H
               clear H
               have k210:=True.intro
               have k211:=True.intro
               go_wp2_with (first
                |((with_reducible refine Qa (N:=29) rfl ?_);obtain ⟨gb135,hgb135⟩:∃ g_,wr.heap.size=g_:=⟨_,rfl⟩;refine VA sT9 (.string (⟨#[10]⟩:ByteArray)) gb135 hgb135 rfl _ rfl rfl (fun w_=>by kernel_rfl) ?_;intro w208 hb_ hB_ hs_;have GEb135:Hid (w.heap.size≤gb135):=hid (by have:=HL.out.size;omega);have NBr_b135:Hid (g≠gb135):=hid (by have:=BKr.out.lt;omega);have NBb135_r:Hid (gb135≠g):=hid (by have:=NBr_b135.out;omega);replace BKr:=hid (BKr.out.below hb_ (by rw [← hgb135];exact BKr.out.lt));replace SWx4_1:=hid (SWx4_1.out.below (by rw [hgb135];exact hb_));replace HL:=hid (HL.out.below hb_ (GEb135.out));have BKb135:=hid hB_;clear hb_ hB_ hs_ hgb135)
                |(at_builtin;clear k210;refine KL xr w.heap.size (ux4_1) (x4_1.map Value.string) (.string (⟨#[10]⟩:ByteArray)) gb135 1 SWx4_1.out BKb135.out rfl (by have h_:=hc191.out;rw [List.length_map];omega) (by have h_:=hc191.out;rw [List.length_map];unfold maxLen;omega) HL.out.size rfl _ _ rfl rfl rfl ?_;intro uo136 w209 ho_ hb_ hk_ hi_;clear SWx4_1;have SWo136:Hid (Own w209 w.heap.size 9 (uo136) ((x4_1++[(⟨#[10]⟩:ByteArray)]).map Value.string)):=hid (by rw [List.map_append];exact ho_);replace BKr:=hid (hk_ _ _ _ (by decide) BKr.out);replace HL:=hid (HL.out.below hb_ (Nat.le_refl _));clear ho_ hb_ hk_ hi_ BKb135)
                |(go_at_call 37;clear k211;refine (Qt.c k181 yr_0_0 yr_1_0 yr_2_0 yr_3_0 yr_4_0 yr_5_0 yr_6_0 yr_7_0 yr_8_0 yr_9_0 yr_10_0 yr_11_0 yr_12_0 yr_13_0 yr_14_0 yr_15_0 yr_16_0 (uo136) (x4_1++[(⟨#[10]⟩:ByteArray)]) LN_yr_3_0.out t137 t138 t139 t140 t141 t142 t143 t144 t145 t146 t147 t148 t149 t150 t151 t152 t153 t154 g _ BKr.out SWo136.out.slT A192.out).mono ?_;rintro e_ w212 ⟨rfl,ln_t141,hB_,hx_⟩;have LN_t141:=hid ln_t141;clear ln_t141;replace SWo136:=hid (SWo136.out.bex hx_ (Nat.le_refl _) BKr.out (by decide));replace HL:=hid (HL.out.bex hx_ HL.out.size (.inl rfl));replace BKr:=hid hB_;clear hx_ hB_)
                |((with_reducible refine Qa (N:=36) rfl ?_);refine Qb (Pg g 2) (Qc 54 2 (Pg g 0) (Pg g 2) (Jt g) _ rfl rfl) rfl ?_)
                |((with_reducible refine Qa (N:=37) rfl ?_);refine Qb (Ii t140) (Qd Zk g (2) (Ii t140) ((yv [.string t138,Ii t139,Ii t140] (Value.int .i8) t141 [Ii t142,Ii t143,Ii t144,Ii t145,Ii t146,Ii t147,.bool t148,.bool t149,.bool t150,Ii t151,Ii t152,Ii t153,t154])) BKr.out ((QC (a:=3) rfl 2 (by decide)).trans rfl) _ rfl rfl) rfl ?_)
                |((with_reducible refine Qa (N:=41) rfl ?_);obtain ⟨ad155,c213,hv214,HCad155_⟩:=Sl.get (l:=x4_1++[(⟨#[10]⟩:ByteArray)]) (f:=Value.string) SWo136.out.sl ByteArray.empty (i:=t137) hc194.out hc195.out;have HCad155:=hid HCad155_;clear HCad155_;refine Qb (.pointer (some (ad155.add t137.toNat))) (XO _ _ t137 _ _ hv214 hc194.out hc195.out VE sT9 _ _ rfl rfl rfl) rfl ?_;have HVAad155:=hid hv214;clear hv214)
                |((with_reducible refine Qa (N:=42) rfl ?_);refine Qb (.string (nt (x4_1++[(⟨#[10]⟩:ByteArray)]) t137.toNat ByteArray.empty)) (ZB sT9 _ _ HCad155.out _ rfl rfl) rfl ?_))
               (try simp only [Act.put,sI,sZ,sS])
               have WR64:=Zs
               have WR32:=ZA
               have WR8:=Ko
               have WRU:=ZY
               refine QL (fun z_=>Bex g w.heap.size w z_∧Blk z_ g 54 (yv [.string t138,Ii t139,Ii t140] (Value.int .i8) t141 [Ii t142,Ii t143,Ii t144,Ii t145,Ii t146,Ii t147,.bool t148,.bool t149,.bool t150,Ii t151,Ii t152,Ii t153,t154])∧Own z_ w.heap.size 9 (uo136) ((x4_1++[(⟨#[10]⟩:ByteArray)]).map Value.string)∧True) [15] [(0,2),(1,2),(2,2),(3,2),(4,2),(5,1),(6,2),(7,2),(8,2),(9,2),(10,2),(11,2),(12,2),(13,2),(14,2),(15,0)] (by kernel_rfl) (by kernel_rfl) (by kernel_rfl) rfl ?_
               intro w215 hb_
               replace BKr:=hid (BKr.out.below hb_ BKr.out.lt)
               replace SWo136:=hid (SWo136.out.below hb_)
               replace HL:=hid (HL.out.below hb_ HL.out.size)
               clear hb_
               refine Qe (Pg g 0) rfl (fun z_=>Qo (.tmp 0) (.inl rfl) _ rfl) rfl rfl ?_
               intro t_ k_;simp only [sI,sZ,sS] at k_;subst k_
               refine Qe (Pg g 0) rfl (fun z_=>by go_simp <;> (unfold wrap64;omega)) rfl rfl ?_
               intro t_ k_;simp only [sI,sZ,sS] at k_;subst k_
               refine Qe (Pg g 3) rfl (fun z_=>Qc 54 3 (Pg g 0) (Pg g 3) (Xl g) _ rfl rfl) rfl rfl ?_
               intro t_ k_;simp only [sI,sZ,sS] at k_;subst k_
               refine Qe (Pg g 3) rfl (fun z_=>Qc 30 0 (Pg g 3) (Pg g 3) (KG g) _ rfl rfl) rfl rfl ?_
               intro t_ k_;simp only [sI,sZ,sS] at k_;subst k_
               refine Qe (Pg g 68) rfl (fun z_=>Qc 26 2 (Pg g 3) (Pg g 68) (ql g) _ rfl rfl) rfl rfl ?_
               intro t_ k_;simp only [sI,sZ,sS] at k_;subst k_
               refine QA (Ii t143) ⟨HL.out,BKr.out,SWo136.out,trivial⟩ rfl (fun z_ hS_=>Qd sT3 g (68) (Ii t143) ((yv [.string t138,Ii t139,Ii t140] (Value.int .i8) t141 [Ii t142,Ii t143,Ii t144,Ii t145,Ii t146,Ii t147,.bool t148,.bool t149,.bool t150,Ii t151,Ii t152,Ii t153,t154])) hS_.2.1 ((ZK (a:=3) (n:=64) rfl LN_t141.out 1 68 (by decide)).trans rfl) _ rfl rfl) rfl rfl ?_
               intro t_ k_;simp only [sI,sZ,sS] at k_;subst k_
               refine Qe (Ii x2_0) rfl (fun z_=>Qo (.tmp 2) (.inl rfl) _ rfl) rfl rfl ?_
               intro t_ k_;simp only [sI,sZ,sS] at k_;subst k_
               refine Qe (Ii t137) rfl (fun z_=>Qo (.tmp 6) (.inl rfl) _ rfl) rfl rfl ?_
               intro t_ k_;simp only [sI,sZ,sS] at k_;subst k_
               refine Qe (Ii (wrap64 (x2_0+t137))) rfl (fun z_=>by go_simp <;> (unfold wrap64;omega)) rfl rfl ?_
               intro t_ k_;simp only [sI,sZ,sS] at k_;subst k_
               refine Qe (Ii s156) rfl (fun z_=>((Qch (k:=.i64) (yk:=.i64) 1 (wrap64 (x2_0+t137)) hc205.out hc206.out _ _ _ _ rfl rfl rfl).trans (by rw [Zs])).trans (by rw [Option.some.inj A207.out])) rfl rfl ?_
               intro t_ k_;simp only [sI,sZ,sS] at k_;subst k_
               refine Qe (Ii (Go.bits .or .i64 t143 s156)) rfl (fun z_=>by go_simp <;> (unfold wrap64;omega)) rfl rfl ?_
               intro t_ k_;simp only [sI,sZ,sS] at k_;subst k_
               refine Qe (Pg g 0) rfl (fun z_=>by go_simp <;> (unfold wrap64;omega)) rfl rfl ?_
               intro t_ k_;simp only [sI,sZ,sS] at k_;subst k_
               refine Qe (Pg g 3) rfl (fun z_=>Qc 54 3 (Pg g 0) (Pg g 3) (Xl g) _ rfl rfl) rfl rfl ?_
               intro t_ k_;simp only [sI,sZ,sS] at k_;subst k_
               refine Qe (Pg g 3) rfl (fun z_=>Qc 30 0 (Pg g 3) (Pg g 3) (KG g) _ rfl rfl) rfl rfl ?_
               intro t_ k_;simp only [sI,sZ,sS] at k_;subst k_
               refine Qe (Pg g 68) rfl (fun z_=>Qc 26 2 (Pg g 3) (Pg g 68) (ql g) _ rfl rfl) rfl rfl ?_
               intro t_ k_;simp only [sI,sZ,sS] at k_;subst k_
               refine QV rfl (fun Q'_ hQ_=>?_)
               (with_reducible refine Qf (t:=3) (p:=65) rfl ?_)
               refine QH sT3 g (68) (Ii (Go.bits .or .i64 t143 s156)) (yv [.string t138,Ii t139,Ii t140] (Value.int .i8) t141 [Ii t142,Ii t143,Ii t144,Ii t145,Ii t146,Ii t147,.bool t148,.bool t149,.bool t150,Ii t151,Ii t152,Ii t153,t154]) (yv [.string t138,Ii t139,Ii t140] (Value.int .i8) t141 [Ii t142,Ii (Go.bits .or .i64 t143 s156),Ii t144,Ii t145,Ii t146,Ii t147,.bool t148,.bool t149,.bool t150,Ii t151,Ii t152,Ii t153,t154]) BKr.out (Xm (a:=3) (n:=64) (c:=13) rfl LN_t141.out rfl (m:=68) (by decide)) rfl rfl ((Kc (a:=3) (n:=64) rfl LN_t141.out 1 68 (by decide) _).trans rfl) rfl _ _ rfl rfl rfl ?_
               intro w216 ho_ hB_
               replace SWo136:=hid (SWo136.out.off ho_ BKr.out (by decide))
               replace HL:=hid (HL.out.off ho_ (.inl rfl))
               replace BKr:=hid hB_
               clear ho_ hB_
               refine Qz ?_
               refine hQ_ _ _ (fun h_=>absurd h_ (by decide)) ?_
               clear hQ_ Q'_
               simp only [Act.put]
               refine JH ?_
               clear WR64 WR32 WR8 WRU
               go_wp2_with fail
               (try simp only [Act.put,sI,sZ,sS])
               go_roundg k181
               case measure=>have:=HK177.out;have:=HK180.out;omega
               case rel=>exact ⟨wrap64 (x2_0+(wrap64 (t137+1))),wrap64 (x3_0+1),t138,t139,t140,t141,t142,Go.bits .or .i64 t143 s156,t144,t145,t146,t147,t148,t149,t150,t151,t152,t153,t154,(by first|rfl|(simp;done)|(simp [*];done)),(by first|rfl|(simp;done)|(simp [*];done)),H',(hid (by first|omega|(have:=HK177.out;have:=HK180.out;omega))),(hid (by first|rfl|(simp only [List.length_set,List.length_replicate,Qh,List.length_cons,List.length_nil,LN_s3.out,LN_yr_3_0.out,LN_t141.out];done)|(simp [Qh,LN_s3.out,LN_yr_3_0.out,LN_t141.out];done))),(hid (by exact BKr.out)),HL⟩
              ·
               rw [if_neg c206] at H
               exact absurd H (by simp)
             ·
              rw [if_neg c205] at H
              exact absurd H (by simp)
           ·
            rw [if_neg c195] at H
            exact absurd H (by simp)
          ·
           rw [if_neg c194] at H
           exact absurd H (by simp)
         ·
          rw [if_neg c193] at H
          have c193b0:(t140==0)=false:=beq_eq_false_iff_ne.mpr c193
          have c193b1:(t140 != 0)=true:=bne_iff_ne.mpr c193
          have hc193:=hid c193
          clear c193
          simp only [Option.some.injEq,Prod.mk.injEq] at H
          obtain ⟨rfl,rfl,rfl,rfl,rfl,rfl,rfl,rfl,rfl,rfl,rfl,rfl,rfl,rfl,rfl,rfl,rfl⟩:=H
          have k219:=True.intro
          have k220:=True.intro
          go_wp2_with (first
           |((with_reducible refine Qa (N:=29) rfl ?_);obtain ⟨gb135,hgb135⟩:∃ g_,wr.heap.size=g_:=⟨_,rfl⟩;refine VA sT9 (.string (⟨#[10]⟩:ByteArray)) gb135 hgb135 rfl _ rfl rfl (fun w_=>by kernel_rfl) ?_;intro w217 hb_ hB_ hs_;have GEb135:Hid (w.heap.size≤gb135):=hid (by have:=HL.out.size;omega);have NBr_b135:Hid (g≠gb135):=hid (by have:=BKr.out.lt;omega);have NBb135_r:Hid (gb135≠g):=hid (by have:=NBr_b135.out;omega);replace BKr:=hid (BKr.out.below hb_ (by rw [← hgb135];exact BKr.out.lt));replace SWx4_1:=hid (SWx4_1.out.below (by rw [hgb135];exact hb_));replace HL:=hid (HL.out.below hb_ (GEb135.out));have BKb135:=hid hB_;clear hb_ hB_ hs_ hgb135)
           |(at_builtin;clear k219;refine KL xr w.heap.size (ux4_1) (x4_1.map Value.string) (.string (⟨#[10]⟩:ByteArray)) gb135 1 SWx4_1.out BKb135.out rfl (by have h_:=hc191.out;rw [List.length_map];omega) (by have h_:=hc191.out;rw [List.length_map];unfold maxLen;omega) HL.out.size rfl _ _ rfl rfl rfl ?_;intro uo136 w218 ho_ hb_ hk_ hi_;clear SWx4_1;have SWo136:Hid (Own w218 w.heap.size 9 (uo136) ((x4_1++[(⟨#[10]⟩:ByteArray)]).map Value.string)):=hid (by rw [List.map_append];exact ho_);replace BKr:=hid (hk_ _ _ _ (by decide) BKr.out);replace HL:=hid (HL.out.below hb_ (Nat.le_refl _));clear ho_ hb_ hk_ hi_ BKb135)
           |(go_at_call 37;clear k220;refine (Qt.c k181 yr_0_0 yr_1_0 yr_2_0 yr_3_0 yr_4_0 yr_5_0 yr_6_0 yr_7_0 yr_8_0 yr_9_0 yr_10_0 yr_11_0 yr_12_0 yr_13_0 yr_14_0 yr_15_0 yr_16_0 (uo136) (x4_1++[(⟨#[10]⟩:ByteArray)]) LN_yr_3_0.out t137 t138 t139 t140 t141 t142 t143 t144 t145 t146 t147 t148 t149 t150 t151 t152 t153 t154 g _ BKr.out SWo136.out.slT A192.out).mono ?_;rintro e_ w221 ⟨rfl,ln_t141,hB_,hx_⟩;have LN_t141:=hid ln_t141;clear ln_t141;replace SWo136:=hid (SWo136.out.bex hx_ (Nat.le_refl _) BKr.out (by decide));replace HL:=hid (HL.out.bex hx_ HL.out.size (.inl rfl));replace BKr:=hid hB_;clear hx_ hB_)
           |((with_reducible refine Qa (N:=36) rfl ?_);refine Qb (Pg g 2) (Qc 54 2 (Pg g 0) (Pg g 2) (Jt g) _ rfl rfl) rfl ?_)
           |((with_reducible refine Qa (N:=37) rfl ?_);refine Qb (Ii t140) (Qd Zk g (2) (Ii t140) ((yv [.string t138,Ii t139,Ii t140] (Value.int .i8) t141 [Ii t142,Ii t143,Ii t144,Ii t145,Ii t146,Ii t147,.bool t148,.bool t149,.bool t150,Ii t151,Ii t152,Ii t153,t154])) BKr.out ((QC (a:=3) rfl 2 (by decide)).trans rfl) _ rfl rfl) rfl ?_))
          (try simp only [Act.put,sI,sZ,sS])
          (first|go_end0|refine bodyPost_ret (results_none rfl _ _ _) rfl ?_)
          exact ⟨by first|rfl|(simp;done),LN_t141.out,(by exact BKr.out),HL.out⟩
        ·
         rw [if_neg c191] at H
         exact absurd H (by simp)
       ·
        rw [if_neg c190] at H
        have c190b0:decide (0<x3_0)=false:=decide_eq_false c190
        have hc190:=hid c190
        clear c190
        replace H:=Ia H
        obtain ⟨⟨t157,t158,t159,t160,t161,t162,t163,t164,t165,t166,t167,t168,t169,t170,t171,t172,t173,t174⟩,A222_,H⟩:=H
        dsimp only at H
        have A222:=hid A222_
        clear A222_
        by_cases c223:t160=0
        ·
         rw [if_pos c223] at H
         have c223b0:(t160==0)=true:=beq_iff_eq.mpr c223
         have c223b1:(t160 != 0)=false:=bne_eq_false_iff_eq.mpr c223
         have hc223:=hid c223
         clear c223
         by_cases c224:0≤t157
         ·
          rw [if_pos c224] at H
          have c224b0:decide (0≤t157)=true:=decide_eq_true c224
          have hc224:=hid c224
          clear c224
          by_cases c225:t157<(x4_1.length:Int)
          ·
           rw [if_pos c225] at H
           have c225b0:decide (t157<(x4_1.length:Int))=true:=decide_eq_true c225
           have hc225:=hid c225
           clear c225
           by_cases c226:(nt x4_1 t157.toNat ByteArray.empty).toList=([10]:List UInt8)
           ·
            rw [if_pos c226] at H
            have c226b0:((nt x4_1 t157.toNat ByteArray.empty).toList==([10]:List UInt8))=true:=beq_iff_eq.mpr c226
            have c226b1:((nt x4_1 t157.toNat ByteArray.empty).toList != ([10]:List UInt8))=false:=bne_eq_false_iff_eq.mpr c226
            have hc226:=hid c226
            clear c226
            simp only [Option.some.injEq,Prod.mk.injEq] at H
            obtain ⟨rfl,rfl,rfl,rfl,rfl,rfl,rfl,rfl,rfl,rfl,rfl,rfl,rfl,rfl,rfl,rfl,rfl⟩:=H
            have k227:=True.intro
            go_wp2_with (first
             |(go_at_call 37;clear k227;refine (Qt.c k181 yr_0_0 yr_1_0 yr_2_0 yr_3_0 yr_4_0 yr_5_0 yr_6_0 yr_7_0 yr_8_0 yr_9_0 yr_10_0 yr_11_0 yr_12_0 yr_13_0 yr_14_0 yr_15_0 yr_16_0 (ux4_1) x4_1 LN_yr_3_0.out t157 t158 t159 t160 t161 t162 t163 t164 t165 t166 t167 t168 t169 t170 t171 t172 t173 t174 g _ BKr.out SWx4_1.out.slT A222.out).mono ?_;rintro e_ w228 ⟨rfl,ln_t161,hB_,hx_⟩;have LN_t161:=hid ln_t161;clear ln_t161;replace SWx4_1:=hid (SWx4_1.out.bex hx_ (Nat.le_refl _) BKr.out (by decide));replace HL:=hid (HL.out.bex hx_ HL.out.size (.inl rfl));replace BKr:=hid hB_;clear hx_ hB_)
             |((with_reducible refine Qa (N:=36) rfl ?_);refine Qb (Pg g 2) (Qc 54 2 (Pg g 0) (Pg g 2) (Jt g) _ rfl rfl) rfl ?_)
             |((with_reducible refine Qa (N:=37) rfl ?_);refine Qb (Ii t160) (Qd Zk g (2) (Ii t160) ((yv [.string t158,Ii t159,Ii t160] (Value.int .i8) t161 [Ii t162,Ii t163,Ii t164,Ii t165,Ii t166,Ii t167,.bool t168,.bool t169,.bool t170,Ii t171,Ii t172,Ii t173,t174])) BKr.out ((QC (a:=3) rfl 2 (by decide)).trans rfl) _ rfl rfl) rfl ?_)
             |((with_reducible refine Qa (N:=41) rfl ?_);obtain ⟨ad175,c229,hv230,HCad175_⟩:=Sl.get (l:=x4_1) (f:=Value.string) SWx4_1.out.sl ByteArray.empty (i:=t157) hc224.out hc225.out;have HCad175:=hid HCad175_;clear HCad175_;refine Qb (.pointer (some (ad175.add t157.toNat))) (XO _ _ t157 _ _ hv230 hc224.out hc225.out VE sT9 _ _ rfl rfl rfl) rfl ?_;have HVAad175:=hid hv230;clear hv230)
             |((with_reducible refine Qa (N:=42) rfl ?_);refine Qb (.string (nt x4_1 t157.toNat ByteArray.empty)) (ZB sT9 _ _ HCad175.out _ rfl rfl) rfl ?_)
             |((with_reducible refine Qa (N:=46) rfl ?_);refine Qb (Pg g 1) (Qc 54 1 (Pg g 0) (Pg g 1) (JT g) _ rfl rfl) rfl ?_)
             |((with_reducible refine Qa (N:=47) rfl ?_);refine Qb (Ii t159) (Qd sT3 g (1) (Ii t159) ((yv [.string t158,Ii t159,Ii t160] (Value.int .i8) t161 [Ii t162,Ii t163,Ii t164,Ii t165,Ii t166,Ii t167,.bool t168,.bool t169,.bool t170,Ii t171,Ii t172,Ii t173,t174])) BKr.out ((QC (a:=3) rfl 1 (by decide)).trans rfl) _ rfl rfl) rfl ?_)
             |((with_reducible refine Qa (N:=50) rfl ?_);refine Qb (Pg g 1) (Qc 54 1 (Pg g 0) (Pg g 1) (JT g) _ rfl rfl) rfl ?_)
             |((with_reducible refine Qf (t:=3) (p:=50) rfl ?_);refine QH sT3 g (1) (Ii (wrap64 (t159-1))) (yv [.string t158,Ii t159,Ii t160] (Value.int .i8) t161 [Ii t162,Ii t163,Ii t164,Ii t165,Ii t166,Ii t167,.bool t168,.bool t169,.bool t170,Ii t171,Ii t172,Ii t173,t174]) (yv [.string t158,Ii (wrap64 (t159-1)),Ii t160] (Value.int .i8) t161 [Ii t162,Ii t163,Ii t164,Ii t165,Ii t166,Ii t167,.bool t168,.bool t169,.bool t170,Ii t171,Ii t172,Ii t173,t174]) BKr.out (Xm (a:=3) (n:=64) (c:=13) rfl LN_t161.out rfl (m:=1) (by decide)) rfl rfl ((Xr (a:=3) rfl 1 (by decide) _).trans rfl) rfl _ _ rfl rfl rfl ?_;intro w231 ho_ hB_;replace SWx4_1:=hid (SWx4_1.out.off ho_ BKr.out (by decide));replace HL:=hid (HL.out.off ho_ (.inl rfl));replace BKr:=hid hB_;clear ho_ hB_))
            (try simp only [Act.put,sI,sZ,sS])
            (first|go_end0|refine bodyPost_ret (results_none rfl _ _ _) rfl ?_)
            exact ⟨by first|rfl|(simp;done),LN_t161.out,(by exact BKr.out),HL.out⟩
           ·
            rw [if_neg c226] at H
            have c226b0:((nt x4_1 t157.toNat ByteArray.empty).toList==([10]:List UInt8))=false:=beq_eq_false_iff_ne.mpr c226
            have c226b1:((nt x4_1 t157.toNat ByteArray.empty).toList != ([10]:List UInt8))=true:=bne_iff_ne.mpr c226
            have hc226:=hid c226
            clear c226
            by_cases c232:0≤(wrap64 (x2_0+t157))
            ·
             rw [if_pos c232] at H
             have c232b0:decide (0≤(wrap64 (x2_0+t157)))=true:=decide_eq_true c232
             have hc232:=hid c232
             clear c232
             by_cases c233:(wrap64 (x2_0+t157))≤64
             ·
              rw [if_pos c233] at H
              have c233b0:decide ((wrap64 (x2_0+t157))≤64)=true:=decide_eq_true c233
              have hc233:=hid c233
              clear c233
              replace H:=Ia H
              obtain ⟨s176,A234_,H⟩:=H
              have A234:=hid A234_
              clear A234_
              have H':=hid H
              clear H
              have k235:=True.intro
              go_wp2_with (first
               |(go_at_call 37;clear k235;refine (Qt.c k181 yr_0_0 yr_1_0 yr_2_0 yr_3_0 yr_4_0 yr_5_0 yr_6_0 yr_7_0 yr_8_0 yr_9_0 yr_10_0 yr_11_0 yr_12_0 yr_13_0 yr_14_0 yr_15_0 yr_16_0 (ux4_1) x4_1 LN_yr_3_0.out t157 t158 t159 t160 t161 t162 t163 t164 t165 t166 t167 t168 t169 t170 t171 t172 t173 t174 g _ BKr.out SWx4_1.out.slT A222.out).mono ?_;rintro e_ w236 ⟨rfl,ln_t161,hB_,hx_⟩;have LN_t161:=hid ln_t161;clear ln_t161;replace SWx4_1:=hid (SWx4_1.out.bex hx_ (Nat.le_refl _) BKr.out (by decide));replace HL:=hid (HL.out.bex hx_ HL.out.size (.inl rfl));replace BKr:=hid hB_;clear hx_ hB_)
               |((with_reducible refine Qa (N:=36) rfl ?_);refine Qb (Pg g 2) (Qc 54 2 (Pg g 0) (Pg g 2) (Jt g) _ rfl rfl) rfl ?_)
               |((with_reducible refine Qa (N:=37) rfl ?_);refine Qb (Ii t160) (Qd Zk g (2) (Ii t160) ((yv [.string t158,Ii t159,Ii t160] (Value.int .i8) t161 [Ii t162,Ii t163,Ii t164,Ii t165,Ii t166,Ii t167,.bool t168,.bool t169,.bool t170,Ii t171,Ii t172,Ii t173,t174])) BKr.out ((QC (a:=3) rfl 2 (by decide)).trans rfl) _ rfl rfl) rfl ?_)
               |((with_reducible refine Qa (N:=41) rfl ?_);obtain ⟨ad175,c237,hv238,HCad175_⟩:=Sl.get (l:=x4_1) (f:=Value.string) SWx4_1.out.sl ByteArray.empty (i:=t157) hc224.out hc225.out;have HCad175:=hid HCad175_;clear HCad175_;refine Qb (.pointer (some (ad175.add t157.toNat))) (XO _ _ t157 _ _ hv238 hc224.out hc225.out VE sT9 _ _ rfl rfl rfl) rfl ?_;have HVAad175:=hid hv238;clear hv238)
               |((with_reducible refine Qa (N:=42) rfl ?_);refine Qb (.string (nt x4_1 t157.toNat ByteArray.empty)) (ZB sT9 _ _ HCad175.out _ rfl rfl) rfl ?_))
              (try simp only [Act.put,sI,sZ,sS])
              have WR64:=Zs
              have WR32:=ZA
              have WR8:=Ko
              have WRU:=ZY
              refine QL (fun z_=>Bex g w.heap.size w z_∧Blk z_ g 54 (yv [.string t158,Ii t159,Ii t160] (Value.int .i8) t161 [Ii t162,Ii t163,Ii t164,Ii t165,Ii t166,Ii t167,.bool t168,.bool t169,.bool t170,Ii t171,Ii t172,Ii t173,t174])∧Own z_ w.heap.size 9 (ux4_1) (x4_1.map Value.string)∧True) [15] [(0,2),(1,2),(2,2),(3,2),(4,2),(5,1),(6,2),(7,2),(8,2),(9,2),(10,2),(11,2),(12,2),(13,2),(14,2),(15,0)] (by kernel_rfl) (by kernel_rfl) (by kernel_rfl) rfl ?_
              intro w239 hb_
              replace BKr:=hid (BKr.out.below hb_ BKr.out.lt)
              replace SWx4_1:=hid (SWx4_1.out.below hb_)
              replace HL:=hid (HL.out.below hb_ HL.out.size)
              clear hb_
              refine Qe (Pg g 0) rfl (fun z_=>Qo (.tmp 0) (.inl rfl) _ rfl) rfl rfl ?_
              intro t_ k_;simp only [sI,sZ,sS] at k_;subst k_
              refine Qe (Pg g 0) rfl (fun z_=>by go_simp <;> (unfold wrap64;omega)) rfl rfl ?_
              intro t_ k_;simp only [sI,sZ,sS] at k_;subst k_
              refine Qe (Pg g 3) rfl (fun z_=>Qc 54 3 (Pg g 0) (Pg g 3) (Xl g) _ rfl rfl) rfl rfl ?_
              intro t_ k_;simp only [sI,sZ,sS] at k_;subst k_
              refine Qe (Pg g 3) rfl (fun z_=>Qc 30 0 (Pg g 3) (Pg g 3) (KG g) _ rfl rfl) rfl rfl ?_
              intro t_ k_;simp only [sI,sZ,sS] at k_;subst k_
              refine Qe (Pg g 68) rfl (fun z_=>Qc 26 2 (Pg g 3) (Pg g 68) (ql g) _ rfl rfl) rfl rfl ?_
              intro t_ k_;simp only [sI,sZ,sS] at k_;subst k_
              refine QA (Ii t163) ⟨HL.out,BKr.out,SWx4_1.out,trivial⟩ rfl (fun z_ hS_=>Qd sT3 g (68) (Ii t163) ((yv [.string t158,Ii t159,Ii t160] (Value.int .i8) t161 [Ii t162,Ii t163,Ii t164,Ii t165,Ii t166,Ii t167,.bool t168,.bool t169,.bool t170,Ii t171,Ii t172,Ii t173,t174])) hS_.2.1 ((ZK (a:=3) (n:=64) rfl LN_t161.out 1 68 (by decide)).trans rfl) _ rfl rfl) rfl rfl ?_
              intro t_ k_;simp only [sI,sZ,sS] at k_;subst k_
              refine Qe (Ii x2_0) rfl (fun z_=>Qo (.tmp 2) (.inl rfl) _ rfl) rfl rfl ?_
              intro t_ k_;simp only [sI,sZ,sS] at k_;subst k_
              refine Qe (Ii t157) rfl (fun z_=>Qo (.tmp 6) (.inl rfl) _ rfl) rfl rfl ?_
              intro t_ k_;simp only [sI,sZ,sS] at k_;subst k_
              refine Qe (Ii (wrap64 (x2_0+t157))) rfl (fun z_=>by go_simp <;> (unfold wrap64;omega)) rfl rfl ?_
              intro t_ k_;simp only [sI,sZ,sS] at k_;subst k_
              refine Qe (Ii s176) rfl (fun z_=>((Qch (k:=.i64) (yk:=.i64) 1 (wrap64 (x2_0+t157)) hc232.out hc233.out _ _ _ _ rfl rfl rfl).trans (by rw [Zs])).trans (by rw [Option.some.inj A234.out])) rfl rfl ?_
              intro t_ k_;simp only [sI,sZ,sS] at k_;subst k_
              refine Qe (Ii (Go.bits .or .i64 t163 s176)) rfl (fun z_=>by go_simp <;> (unfold wrap64;omega)) rfl rfl ?_
              intro t_ k_;simp only [sI,sZ,sS] at k_;subst k_
              refine Qe (Pg g 0) rfl (fun z_=>by go_simp <;> (unfold wrap64;omega)) rfl rfl ?_
              intro t_ k_;simp only [sI,sZ,sS] at k_;subst k_
              refine Qe (Pg g 3) rfl (fun z_=>Qc 54 3 (Pg g 0) (Pg g 3) (Xl g) _ rfl rfl) rfl rfl ?_
              intro t_ k_;simp only [sI,sZ,sS] at k_;subst k_
              refine Qe (Pg g 3) rfl (fun z_=>Qc 30 0 (Pg g 3) (Pg g 3) (KG g) _ rfl rfl) rfl rfl ?_
              intro t_ k_;simp only [sI,sZ,sS] at k_;subst k_
              refine Qe (Pg g 68) rfl (fun z_=>Qc 26 2 (Pg g 3) (Pg g 68) (ql g) _ rfl rfl) rfl rfl ?_
              intro t_ k_;simp only [sI,sZ,sS] at k_;subst k_
              refine QV rfl (fun Q'_ hQ_=>?_)
              (with_reducible refine Qf (t:=3) (p:=65) rfl ?_)
              refine QH sT3 g (68) (Ii (Go.bits .or .i64 t163 s176)) (yv [.string t158,Ii t159,Ii t160] (Value.int .i8) t161 [Ii t162,Ii t163,Ii t164,Ii t165,Ii t166,Ii t167,.bool t168,.bool t169,.bool t170,Ii t171,Ii t172,Ii t173,t174]) (yv [.string t158,Ii t159,Ii t160] (Value.int .i8) t161 [Ii t162,Ii (Go.bits .or .i64 t163 s176),Ii t164,Ii t165,Ii t166,Ii t167,.bool t168,.bool t169,.bool t170,Ii t171,Ii t172,Ii t173,t174]) BKr.out (Xm (a:=3) (n:=64) (c:=13) rfl LN_t161.out rfl (m:=68) (by decide)) rfl rfl ((Kc (a:=3) (n:=64) rfl LN_t161.out 1 68 (by decide) _).trans rfl) rfl _ _ rfl rfl rfl ?_
              intro w240 ho_ hB_
              replace SWx4_1:=hid (SWx4_1.out.off ho_ BKr.out (by decide))
              replace HL:=hid (HL.out.off ho_ (.inl rfl))
              replace BKr:=hid hB_
              clear ho_ hB_
              refine Qz ?_
              refine hQ_ _ _ (fun h_=>absurd h_ (by decide)) ?_
              clear hQ_ Q'_
              simp only [Act.put]
              refine JH ?_
              clear WR64 WR32 WR8 WRU
              go_wp2_with fail
              (try simp only [Act.put,sI,sZ,sS])
              go_roundg k181
              case measure=>have:=HK177.out;have:=HK180.out;omega
              case rel=>exact ⟨wrap64 (x2_0+(wrap64 (t157+1))),wrap64 (x3_0+1),t158,t159,t160,t161,t162,Go.bits .or .i64 t163 s176,t164,t165,t166,t167,t168,t169,t170,t171,t172,t173,t174,(by first|rfl|(simp;done)|(simp [*];done)),(by first|rfl|(simp;done)|(simp [*];done)),H',(hid (by first|omega|(have:=HK177.out;have:=HK180.out;omega))),(hid (by first|rfl|(simp only [List.length_set,List.length_replicate,Qh,List.length_cons,List.length_nil,LN_s3.out,LN_yr_3_0.out,LN_t161.out];done)|(simp [Qh,LN_s3.out,LN_yr_3_0.out,LN_t161.out];done))),(hid (by exact BKr.out)),HL⟩
             ·
              rw [if_neg c233] at H
              exact absurd H (by simp)
            ·
             rw [if_neg c232] at H
             exact absurd H (by simp)
          ·
           rw [if_neg c225] at H
           exact absurd H (by simp)
         ·
          rw [if_neg c224] at H
          exact absurd H (by simp)
        ·
         rw [if_neg c223] at H
         have c223b0:(t160==0)=false:=beq_eq_false_iff_ne.mpr c223
         have c223b1:(t160 != 0)=true:=bne_iff_ne.mpr c223
         have hc223:=hid c223
         clear c223
         simp only [Option.some.injEq,Prod.mk.injEq] at H
         obtain ⟨rfl,rfl,rfl,rfl,rfl,rfl,rfl,rfl,rfl,rfl,rfl,rfl,rfl,rfl,rfl,rfl,rfl⟩:=H
         have k241:=True.intro
         go_wp2_with (first
          |(go_at_call 37;clear k241;refine (Qt.c k181 yr_0_0 yr_1_0 yr_2_0 yr_3_0 yr_4_0 yr_5_0 yr_6_0 yr_7_0 yr_8_0 yr_9_0 yr_10_0 yr_11_0 yr_12_0 yr_13_0 yr_14_0 yr_15_0 yr_16_0 (ux4_1) x4_1 LN_yr_3_0.out t157 t158 t159 t160 t161 t162 t163 t164 t165 t166 t167 t168 t169 t170 t171 t172 t173 t174 g _ BKr.out SWx4_1.out.slT A222.out).mono ?_;rintro e_ w242 ⟨rfl,ln_t161,hB_,hx_⟩;have LN_t161:=hid ln_t161;clear ln_t161;replace SWx4_1:=hid (SWx4_1.out.bex hx_ (Nat.le_refl _) BKr.out (by decide));replace HL:=hid (HL.out.bex hx_ HL.out.size (.inl rfl));replace BKr:=hid hB_;clear hx_ hB_)
          |((with_reducible refine Qa (N:=36) rfl ?_);refine Qb (Pg g 2) (Qc 54 2 (Pg g 0) (Pg g 2) (Jt g) _ rfl rfl) rfl ?_)
          |((with_reducible refine Qa (N:=37) rfl ?_);refine Qb (Ii t160) (Qd Zk g (2) (Ii t160) ((yv [.string t158,Ii t159,Ii t160] (Value.int .i8) t161 [Ii t162,Ii t163,Ii t164,Ii t165,Ii t166,Ii t167,.bool t168,.bool t169,.bool t170,Ii t171,Ii t172,Ii t173,t174])) BKr.out ((QC (a:=3) rfl 2 (by decide)).trans rfl) _ rfl rfl) rfl ?_))
         (try simp only [Act.put,sI,sZ,sS])
         (first|go_end0|refine bodyPost_ret (results_none rfl _ _ _) rfl ?_)
         exact ⟨by first|rfl|(simp;done),LN_t161.out,(by exact BKr.out),HL.out⟩
   ·
    rw [if_neg c179] at H
    have c179b0:(yr_2_0==0)=false:=beq_eq_false_iff_ne.mpr c179
    have c179b1:(yr_2_0 != 0)=true:=bne_iff_ne.mpr c179
    have hc179:=hid c179
    clear c179
    simp only [Option.some.injEq,Prod.mk.injEq] at H
    obtain ⟨rfl,rfl,rfl,rfl,rfl,rfl,rfl,rfl,rfl,rfl,rfl,rfl,rfl,rfl,rfl,rfl,rfl⟩:=H
    go_wp2_with (first
     |((with_reducible refine Qa (N:=9) rfl ?_);refine Qb (Pg g 2) (Qc 54 2 (Pg g 0) (Pg g 2) (Jt g) _ rfl rfl) rfl ?_)
     |((with_reducible refine Qa (N:=10) rfl ?_);refine Qb (Ii yr_2_0) (Qd Zk g (2) (Ii yr_2_0) ((yv [.string yr_0_0,Ii yr_1_0,Ii yr_2_0] (Value.int .i8) yr_3_0 [Ii yr_4_0,Ii yr_5_0,Ii yr_6_0,Ii yr_7_0,Ii yr_8_0,Ii yr_9_0,.bool yr_10_0,.bool yr_11_0,.bool yr_12_0,Ii yr_13_0,Ii yr_14_0,Ii yr_15_0,yr_16_0])) BKr.out ((QC (a:=3) rfl 2 (by decide)).trans rfl) _ rfl rfl) rfl ?_))
    (try simp only [Act.put,sI,sZ,sS])
    (first|go_end0|refine bodyPost_ret (results_none rfl _ _ _) rfl ?_)
    exact ⟨by first|rfl|(simp;done),LN_yr_3_0.out,(by exact BKr.out),HL.out⟩
def Xz.f(s0:ByteArray)(s1 s2:Int)(s3:List Int)(s4 s5 s6 s7 s8 s9:Int)(s10 s11 s12:Bool)(s13 s14 s15:Int)(s16:Value):Option (ByteArray×Int×Int×(List Int)×Int×Int×Int×Int×Int×Int×Bool×Bool×Bool×Int×Int×Int×Value):=some (s0,s1,s2,s3,s4,s5,s6,s7,s8,s9,s10,true,s12,s13,s14,s15,s16)
theorem Xz.c(s0:ByteArray)(s1 s2:Int)(s3:List Int)(s4 s5 s6 s7 s8 s9:Int)(s10 s11 s12:Bool)(s13 s14 s15:Int)(s16:Value)(hls3:s3.length=64)(q0:ByteArray)(q1 q2:Int)(q3:List Int)(q4 q5 q6 q7 q8 q9:Int)(q10 q11 q12:Bool)(q13 q14 q15:Int)(q16:Value)(g:Nat)(w:World)(hB:Blk w g 54 (yv [.string s0,Ii s1,Ii s2] (Value.int .i8) s3 [Ii s4,Ii s5,Ii s6,Ii s7,Ii s8,Ii s9,.bool s10,.bool s11,.bool s12,Ii s13,Ii s14,Ii s15,s16]))(h:Xz.f s0 s1 s2 s3 s4 s5 s6 s7 s8 s9 s10 s11 s12 s13 s14 s15 s16=some (q0,q1,q2,q3,q4,q5,q6,q7,q8,q9,q10,q11,q12,q13,q14,q15,q16)):
 Calls Tryz.prog 34 #[Pg g 0] w fun e w'=>e=.returned (.tuple #[])∧q3.length=64∧Blk w' g 54 (yv [.string q0,Ii q1,Ii q2] (Value.int .i8) q3 [Ii q4,Ii q5,Ii q6,Ii q7,Ii q8,Ii q9,.bool q10,.bool q11,.bool q12,Ii q13,Ii q14,Ii q15,q16])∧Bex g w.heap.size w w':=by
 have LN_s3:=hid hls3
 clear hls3
 have BKr:=hid hB
 clear hB
 have HL:=hid (Bex.refl g w.heap.size w)
 have H:(some (s0,s1,s2,s3,s4,s5,s6,s7,s8,s9,s10,true,s12,s13,s14,s15,s16))=some (q0,q1,q2,q3,q4,q5,q6,q7,q8,q9,q10,q11,q12,q13,q14,q15,q16):=h
 clear h
 simp only [Option.some.injEq,Prod.mk.injEq] at H
 obtain ⟨rfl,rfl,rfl,rfl,rfl,rfl,rfl,rfl,rfl,rfl,rfl,rfl,rfl,rfl,rfl,rfl,rfl⟩:=H
 go_enter Tryz.func34,Tryz.ntmps34
 go_wp2_with (first
  |((with_reducible refine Qa (N:=4) rfl ?_);refine Qb (Pg g 3) (Qc 54 3 (Pg g 0) (Pg g 3) (Xl g) _ rfl rfl) rfl ?_)
  |((with_reducible refine Qa (N:=5) rfl ?_);refine Qb (Pg g 74) (Qc 30 2 (Pg g 3) (Pg g 74) (Qcp g) _ rfl rfl) rfl ?_)
  |((with_reducible refine Qf (t:=4) (p:=5) rfl ?_);refine QH sT4 g (74) (.bool true) (yv [.string s0,Ii s1,Ii s2] (Value.int .i8) s3 [Ii s4,Ii s5,Ii s6,Ii s7,Ii s8,Ii s9,.bool s10,.bool s11,.bool s12,Ii s13,Ii s14,Ii s15,s16]) (yv [.string s0,Ii s1,Ii s2] (Value.int .i8) s3 [Ii s4,Ii s5,Ii s6,Ii s7,Ii s8,Ii s9,.bool s10,.bool true,.bool s12,Ii s13,Ii s14,Ii s15,s16]) BKr.out (Xm (a:=3) (n:=64) (c:=13) rfl LN_s3.out rfl (m:=74) (by decide)) rfl rfl ((Kc (a:=3) (n:=64) rfl LN_s3.out 7 74 (by decide) _).trans rfl) rfl _ _ rfl rfl rfl ?_;intro w1 ho_ hB_;replace HL:=hid (HL.out.off ho_ (.inl rfl));replace BKr:=hid hB_;clear ho_ hB_))
 (try simp only [Act.put,sI,sZ,sS])
 (first|go_end0|refine bodyPost_ret (results_none rfl _ _ _) rfl ?_)
 exact ⟨by first|rfl|(simp;done),LN_s3.out,(by exact BKr.out),HL.out⟩
def XA.f(s0:ByteArray)(s1 s2:Int)(s3:List Int)(s4 s5 s6 s7 s8 s9:Int)(s10 s11 s12:Bool)(s13 s14 s15:Int)(s16:Value):Option (ByteArray×Int×Int×(List Int)×Int×Int×Int×Int×Int×Int×Bool×Bool×Bool×Int×Int×Int×Value):=some (s0,s1,s2,s3,s4,s5,s6,s7,s8,s9,s10,s11,true,s13,s14,s15,s16)
theorem XA.c(s0:ByteArray)(s1 s2:Int)(s3:List Int)(s4 s5 s6 s7 s8 s9:Int)(s10 s11 s12:Bool)(s13 s14 s15:Int)(s16:Value)(hls3:s3.length=64)(q0:ByteArray)(q1 q2:Int)(q3:List Int)(q4 q5 q6 q7 q8 q9:Int)(q10 q11 q12:Bool)(q13 q14 q15:Int)(q16:Value)(g:Nat)(w:World)(hB:Blk w g 54 (yv [.string s0,Ii s1,Ii s2] (Value.int .i8) s3 [Ii s4,Ii s5,Ii s6,Ii s7,Ii s8,Ii s9,.bool s10,.bool s11,.bool s12,Ii s13,Ii s14,Ii s15,s16]))(h:XA.f s0 s1 s2 s3 s4 s5 s6 s7 s8 s9 s10 s11 s12 s13 s14 s15 s16=some (q0,q1,q2,q3,q4,q5,q6,q7,q8,q9,q10,q11,q12,q13,q14,q15,q16)):
 Calls Tryz.prog 35 #[Pg g 0] w fun e w'=>e=.returned (.tuple #[])∧q3.length=64∧Blk w' g 54 (yv [.string q0,Ii q1,Ii q2] (Value.int .i8) q3 [Ii q4,Ii q5,Ii q6,Ii q7,Ii q8,Ii q9,.bool q10,.bool q11,.bool q12,Ii q13,Ii q14,Ii q15,q16])∧Bex g w.heap.size w w':=by
 have LN_s3:=hid hls3
 clear hls3
 have BKr:=hid hB
 clear hB
 have HL:=hid (Bex.refl g w.heap.size w)
 have H:(some (s0,s1,s2,s3,s4,s5,s6,s7,s8,s9,s10,s11,true,s13,s14,s15,s16))=some (q0,q1,q2,q3,q4,q5,q6,q7,q8,q9,q10,q11,q12,q13,q14,q15,q16):=h
 clear h
 simp only [Option.some.injEq,Prod.mk.injEq] at H
 obtain ⟨rfl,rfl,rfl,rfl,rfl,rfl,rfl,rfl,rfl,rfl,rfl,rfl,rfl,rfl,rfl,rfl,rfl⟩:=H
 go_enter Tryz.func35,Tryz.ntmps35
 go_wp2_with (first
  |((with_reducible refine Qa (N:=4) rfl ?_);refine Qb (Pg g 3) (Qc 54 3 (Pg g 0) (Pg g 3) (Xl g) _ rfl rfl) rfl ?_)
  |((with_reducible refine Qa (N:=5) rfl ?_);refine Qb (Pg g 75) (Qc 30 3 (Pg g 3) (Pg g 75) (Qcq g) _ rfl rfl) rfl ?_)
  |((with_reducible refine Qf (t:=4) (p:=5) rfl ?_);refine QH sT4 g (75) (.bool true) (yv [.string s0,Ii s1,Ii s2] (Value.int .i8) s3 [Ii s4,Ii s5,Ii s6,Ii s7,Ii s8,Ii s9,.bool s10,.bool s11,.bool s12,Ii s13,Ii s14,Ii s15,s16]) (yv [.string s0,Ii s1,Ii s2] (Value.int .i8) s3 [Ii s4,Ii s5,Ii s6,Ii s7,Ii s8,Ii s9,.bool s10,.bool s11,.bool true,Ii s13,Ii s14,Ii s15,s16]) BKr.out (Xm (a:=3) (n:=64) (c:=13) rfl LN_s3.out rfl (m:=75) (by decide)) rfl rfl ((Kc (a:=3) (n:=64) rfl LN_s3.out 8 75 (by decide) _).trans rfl) rfl _ _ rfl rfl rfl ?_;intro w1 ho_ hB_;replace HL:=hid (HL.out.off ho_ (.inl rfl));replace BKr:=hid hB_;clear ho_ hB_))
 (try simp only [Act.put,sI,sZ,sS])
 (first|go_end0|refine bodyPost_ret (results_none rfl _ _ _) rfl ?_)
 exact ⟨by first|rfl|(simp;done),LN_s3.out,(by exact BKr.out),HL.out⟩
def ZO.f(k:Nat)(s0:ByteArray)(s1 s2:Int)(s3:List Int)(s4 s5 s6 s7 s8 s9:Int)(s10 s11 s12:Bool)(s13 s14 s15:Int)(s16:Value):Option (ByteArray×Int×Int×(List Int)×Int×Int×Int×Int×Int×Int×Bool×Bool×Bool×Int×Int×Int×Value):=(Qt.f k s0 s1 s2 s3 s4 s5 s6 s7 s8 s9 s10 s11 s12 s13 s14 s15 s16 [(⟨#[32,119,104,105,116,101]⟩:ByteArray),(⟨#[32,98,108,97,99,107]⟩:ByteArray)]).bind fun bt2=>(some (bt2.2.1,bt2.2.2.1,bt2.2.2.2.1,bt2.2.2.2.2.1,bt2.2.2.2.2.2.1,bt2.2.2.2.2.2.2.1,bt2.2.2.2.2.2.2.2.1,bt2.2.2.2.2.2.2.2.2.1,bt2.2.2.2.2.2.2.2.2.2.1,bt2.2.2.2.2.2.2.2.2.2.2.1,bt2.2.2.2.2.2.2.2.2.2.2.2.1,bt2.2.2.2.2.2.2.2.2.2.2.2.2.1,bt2.2.2.2.2.2.2.2.2.2.2.2.2.2.1,bt2.2.2.2.2.2.2.2.2.2.2.2.2.2.2.1,bt2.2.2.2.2.2.2.2.2.2.2.2.2.2.2.2.1,bt2.1,bt2.2.2.2.2.2.2.2.2.2.2.2.2.2.2.2.2.2))
theorem ZO.c(k:Nat)(s0:ByteArray)(s1 s2:Int)(s3:List Int)(s4 s5 s6 s7 s8 s9:Int)(s10 s11 s12:Bool)(s13 s14 s15:Int)(s16:Value)(hls3:s3.length=64)(q0:ByteArray)(q1 q2:Int)(q3:List Int)(q4 q5 q6 q7 q8 q9:Int)(q10 q11 q12:Bool)(q13 q14 q15:Int)(q16:Value)(g:Nat)(w:World)(hB:Blk w g 54 (yv [.string s0,Ii s1,Ii s2] (Value.int .i8) s3 [Ii s4,Ii s5,Ii s6,Ii s7,Ii s8,Ii s9,.bool s10,.bool s11,.bool s12,Ii s13,Ii s14,Ii s15,s16]))(h:ZO.f k s0 s1 s2 s3 s4 s5 s6 s7 s8 s9 s10 s11 s12 s13 s14 s15 s16=some (q0,q1,q2,q3,q4,q5,q6,q7,q8,q9,q10,q11,q12,q13,q14,q15,q16)):
 Calls Tryz.prog 36 #[Pg g 0] w fun e w'=>e=.returned (.tuple #[])∧q3.length=64∧Blk w' g 54 (yv [.string q0,Ii q1,Ii q2] (Value.int .i8) q3 [Ii q4,Ii q5,Ii q6,Ii q7,Ii q8,Ii q9,.bool q10,.bool q11,.bool q12,Ii q13,Ii q14,Ii q15,q16])∧Bex g w.heap.size w w':=by
 have LN_s3:=hid hls3
 clear hls3
 have BKr:=hid hB
 clear hB
 have HL:=hid (Bex.refl g w.heap.size w)
 have H:((Qt.f k s0 s1 s2 s3 s4 s5 s6 s7 s8 s9 s10 s11 s12 s13 s14 s15 s16 [(⟨#[32,119,104,105,116,101]⟩:ByteArray),(⟨#[32,98,108,97,99,107]⟩:ByteArray)]).bind fun bt2=>(some (bt2.2.1,bt2.2.2.1,bt2.2.2.2.1,bt2.2.2.2.2.1,bt2.2.2.2.2.2.1,bt2.2.2.2.2.2.2.1,bt2.2.2.2.2.2.2.2.1,bt2.2.2.2.2.2.2.2.2.1,bt2.2.2.2.2.2.2.2.2.2.1,bt2.2.2.2.2.2.2.2.2.2.2.1,bt2.2.2.2.2.2.2.2.2.2.2.2.1,bt2.2.2.2.2.2.2.2.2.2.2.2.2.1,bt2.2.2.2.2.2.2.2.2.2.2.2.2.2.1,bt2.2.2.2.2.2.2.2.2.2.2.2.2.2.2.1,bt2.2.2.2.2.2.2.2.2.2.2.2.2.2.2.2.1,bt2.1,bt2.2.2.2.2.2.2.2.2.2.2.2.2.2.2.2.2.2)))=some (q0,q1,q2,q3,q4,q5,q6,q7,q8,q9,q10,q11,q12,q13,q14,q15,q16):=h
 clear h
 replace H:=Ia H
 obtain ⟨⟨t2,t3,t4,t5,t6,t7,t8,t9,t10,t11,t12,t13,t14,t15,t16,t17,t18,t19⟩,A20_,H⟩:=H
 dsimp only at H
 have A20:=hid A20_
 clear A20_
 simp only [Option.some.injEq,Prod.mk.injEq] at H
 obtain ⟨rfl,rfl,rfl,rfl,rfl,rfl,rfl,rfl,rfl,rfl,rfl,rfl,rfl,rfl,rfl,rfl,rfl⟩:=H
 go_enter Tryz.func36,Tryz.ntmps36
 have k22:=True.intro
 go_wp2_with (first
  |((with_reducible refine Qa (N:=4) rfl ?_);obtain ⟨go1,hgo1⟩:∃ g_,w.heap.size=g_:=⟨_,rfl⟩;refine XY (e:=9) 2 #[.string (⟨#[32,119,104,105,116,101]⟩:ByteArray),.string (⟨#[32,98,108,97,99,107]⟩:ByteArray)] go1 hgo1 rfl _ rfl (fun w_=>by (try simp only [List.map_toArray,List.map_cons,List.map_nil]);kernel_rfl) ?_;intro w21 hb_ hB_ hs_;have GEo1:Hid (w.heap.size≤go1):=hid (by have:=HL.out.size;omega);have NBr_o1:Hid (g≠go1):=hid (by have:=BKr.out.lt;omega);have NBo1_r:Hid (go1≠g):=hid (by have:=NBr_o1.out;omega);replace BKr:=hid (BKr.out.below hb_ (by rw [← hgo1];exact BKr.out.lt));replace HL:=hid (HL.out.below hb_ (GEo1.out));have BKo1:=hid hB_;clear hb_ hB_ hs_ hgo1;obtain ⟨uo1,hu_⟩:∃ u_,u_=(Value.slice (some ⟨go1,0,none⟩) 2 2):=⟨_,rfl⟩;have SWo1:Hid (Own w21 w.heap.size 9 (uo1) ([(⟨#[32,119,104,105,116,101]⟩:ByteArray),(⟨#[32,98,108,97,99,107]⟩:ByteArray)].map Value.string)):=hid (by rw [hu_];exact Own.lit GEo1.out BKo1.out rfl (by simp [maxLen]));rw [← hu_];clear hu_ BKo1)
  |(go_at_call 37;clear k22;refine (Qt.c k s0 s1 s2 s3 s4 s5 s6 s7 s8 s9 s10 s11 s12 s13 s14 s15 s16 (uo1) [(⟨#[32,119,104,105,116,101]⟩:ByteArray),(⟨#[32,98,108,97,99,107]⟩:ByteArray)] LN_s3.out t2 t3 t4 t5 t6 t7 t8 t9 t10 t11 t12 t13 t14 t15 t16 t17 t18 t19 g _ BKr.out SWo1.out.slT A20.out).mono ?_;rintro e_ w23 ⟨rfl,ln_t6,hB_,hx_⟩;have LN_t6:=hid ln_t6;clear ln_t6;replace SWo1:=hid (SWo1.out.bex hx_ (Nat.le_refl _) BKr.out (by decide));replace HL:=hid (HL.out.bex hx_ HL.out.size (.inl rfl));replace BKr:=hid hB_;clear hx_ hB_)
  |((with_reducible refine Qa (N:=7) rfl ?_);refine Qb (Pg g 78) (Qc 54 4 (Pg g 0) (Pg g 78) (Qcr g) _ rfl rfl) rfl ?_)
  |((with_reducible refine Qf (t:=3) (p:=7) rfl ?_);refine QH sT3 g (78) (Ii t2) (yv [.string t3,Ii t4,Ii t5] (Value.int .i8) t6 [Ii t7,Ii t8,Ii t9,Ii t10,Ii t11,Ii t12,.bool t13,.bool t14,.bool t15,Ii t16,Ii t17,Ii t18,t19]) (yv [.string t3,Ii t4,Ii t5] (Value.int .i8) t6 [Ii t7,Ii t8,Ii t9,Ii t10,Ii t11,Ii t12,.bool t13,.bool t14,.bool t15,Ii t16,Ii t17,Ii t2,t19]) BKr.out (Xm (a:=3) (n:=64) (c:=13) rfl LN_t6.out rfl (m:=78) (by decide)) rfl rfl ((Kc (a:=3) (n:=64) rfl LN_t6.out 11 78 (by decide) _).trans rfl) rfl _ _ rfl rfl rfl ?_;intro w24 ho_ hB_;replace SWo1:=hid (SWo1.out.off ho_ BKr.out (by decide));replace HL:=hid (HL.out.off ho_ (.inl rfl));replace BKr:=hid hB_;clear ho_ hB_))
 (try simp only [Act.put,sI,sZ,sS])
 (first|go_end0|refine bodyPost_ret (results_none rfl _ _ _) rfl ?_)
 exact ⟨by first|rfl|(simp;done),LN_t6.out,(by exact BKr.out),HL.out⟩
def ZP.f(k:Nat)(s0:ByteArray)(s1 s2:Int)(s3:List Int)(s4 s5 s6 s7 s8 s9:Int)(s10 s11 s12:Bool)(s13 s14 s15:Int)(s16:Value):Option (ByteArray×Int×Int×(List Int)×Int×Int×Int×Int×Int×Int×Bool×Bool×Bool×Int×Int×Int×Value):=(Qk.f k s0 s1 s2 s3 s4 s5 s6 s7 s8 s9 s10 s11 s12 s13 s14 s15 s16 (⟨#[32]⟩:ByteArray)).bind fun bt1=>((Jf.f k bt1.1 bt1.2.1 bt1.2.2.1 bt1.2.2.2.1 bt1.2.2.2.2.1 bt1.2.2.2.2.2.1 bt1.2.2.2.2.2.2.1 bt1.2.2.2.2.2.2.2.1 bt1.2.2.2.2.2.2.2.2.1 bt1.2.2.2.2.2.2.2.2.2.1 bt1.2.2.2.2.2.2.2.2.2.2.1 bt1.2.2.2.2.2.2.2.2.2.2.2.1 bt1.2.2.2.2.2.2.2.2.2.2.2.2.1 bt1.2.2.2.2.2.2.2.2.2.2.2.2.2.1 bt1.2.2.2.2.2.2.2.2.2.2.2.2.2.2.1 bt1.2.2.2.2.2.2.2.2.2.2.2.2.2.2.2.1 bt1.2.2.2.2.2.2.2.2.2.2.2.2.2.2.2.2 1 1000).bind fun bt18=>(some (bt18.2.1,bt18.2.2.1,bt18.2.2.2.1,bt18.2.2.2.2.1,bt18.2.2.2.2.2.1,bt18.2.2.2.2.2.2.1,bt18.2.2.2.2.2.2.2.1,bt18.2.2.2.2.2.2.2.2.1,bt18.2.2.2.2.2.2.2.2.2.1,bt18.2.2.2.2.2.2.2.2.2.2.1,bt18.2.2.2.2.2.2.2.2.2.2.2.1,bt18.2.2.2.2.2.2.2.2.2.2.2.2.1,bt18.2.2.2.2.2.2.2.2.2.2.2.2.2.1,bt18.1,bt18.2.2.2.2.2.2.2.2.2.2.2.2.2.2.2.1,bt18.2.2.2.2.2.2.2.2.2.2.2.2.2.2.2.2.1,bt18.2.2.2.2.2.2.2.2.2.2.2.2.2.2.2.2.2)))
theorem ZP.c(k:Nat)(s0:ByteArray)(s1 s2:Int)(s3:List Int)(s4 s5 s6 s7 s8 s9:Int)(s10 s11 s12:Bool)(s13 s14 s15:Int)(s16:Value)(hls3:s3.length=64)(q0:ByteArray)(q1 q2:Int)(q3:List Int)(q4 q5 q6 q7 q8 q9:Int)(q10 q11 q12:Bool)(q13 q14 q15:Int)(q16:Value)(g:Nat)(w:World)(hB:Blk w g 54 (yv [.string s0,Ii s1,Ii s2] (Value.int .i8) s3 [Ii s4,Ii s5,Ii s6,Ii s7,Ii s8,Ii s9,.bool s10,.bool s11,.bool s12,Ii s13,Ii s14,Ii s15,s16]))(h:ZP.f k s0 s1 s2 s3 s4 s5 s6 s7 s8 s9 s10 s11 s12 s13 s14 s15 s16=some (q0,q1,q2,q3,q4,q5,q6,q7,q8,q9,q10,q11,q12,q13,q14,q15,q16)):
 Calls Tryz.prog 38 #[Pg g 0] w fun e w'=>e=.returned (.tuple #[])∧q3.length=64∧Blk w' g 54 (yv [.string q0,Ii q1,Ii q2] (Value.int .i8) q3 [Ii q4,Ii q5,Ii q6,Ii q7,Ii q8,Ii q9,.bool q10,.bool q11,.bool q12,Ii q13,Ii q14,Ii q15,q16])∧Bex g w.heap.size w w':=by
 have LN_s3:=hid hls3
 clear hls3
 have BKr:=hid hB
 clear hB
 have HL:=hid (Bex.refl g w.heap.size w)
 have H:((Qk.f k s0 s1 s2 s3 s4 s5 s6 s7 s8 s9 s10 s11 s12 s13 s14 s15 s16 (⟨#[32]⟩:ByteArray)).bind fun bt1=>((Jf.f k bt1.1 bt1.2.1 bt1.2.2.1 bt1.2.2.2.1 bt1.2.2.2.2.1 bt1.2.2.2.2.2.1 bt1.2.2.2.2.2.2.1 bt1.2.2.2.2.2.2.2.1 bt1.2.2.2.2.2.2.2.2.1 bt1.2.2.2.2.2.2.2.2.2.1 bt1.2.2.2.2.2.2.2.2.2.2.1 bt1.2.2.2.2.2.2.2.2.2.2.2.1 bt1.2.2.2.2.2.2.2.2.2.2.2.2.1 bt1.2.2.2.2.2.2.2.2.2.2.2.2.2.1 bt1.2.2.2.2.2.2.2.2.2.2.2.2.2.2.1 bt1.2.2.2.2.2.2.2.2.2.2.2.2.2.2.2.1 bt1.2.2.2.2.2.2.2.2.2.2.2.2.2.2.2.2 1 1000).bind fun bt18=>(some (bt18.2.1,bt18.2.2.1,bt18.2.2.2.1,bt18.2.2.2.2.1,bt18.2.2.2.2.2.1,bt18.2.2.2.2.2.2.1,bt18.2.2.2.2.2.2.2.1,bt18.2.2.2.2.2.2.2.2.1,bt18.2.2.2.2.2.2.2.2.2.1,bt18.2.2.2.2.2.2.2.2.2.2.1,bt18.2.2.2.2.2.2.2.2.2.2.2.1,bt18.2.2.2.2.2.2.2.2.2.2.2.2.1,bt18.2.2.2.2.2.2.2.2.2.2.2.2.2.1,bt18.1,bt18.2.2.2.2.2.2.2.2.2.2.2.2.2.2.2.1,bt18.2.2.2.2.2.2.2.2.2.2.2.2.2.2.2.2.1,bt18.2.2.2.2.2.2.2.2.2.2.2.2.2.2.2.2.2))))=some (q0,q1,q2,q3,q4,q5,q6,q7,q8,q9,q10,q11,q12,q13,q14,q15,q16):=h
 clear h
 replace H:=Ia H
 obtain ⟨⟨t1,t2,t3,t4,t5,t6,t7,t8,t9,t10,t11,t12,t13,t14,t15,t16,t17⟩,A36_,H⟩:=H
 dsimp only at H
 have A36:=hid A36_
 clear A36_
 replace H:=Ia H
 obtain ⟨⟨t18,t19,t20,t21,t22,t23,t24,t25,t26,t27,t28,t29,t30,t31,t32,t33,t34,t35⟩,A37_,H⟩:=H
 dsimp only at H
 have A37:=hid A37_
 clear A37_
 simp only [Option.some.injEq,Prod.mk.injEq] at H
 obtain ⟨rfl,rfl,rfl,rfl,rfl,rfl,rfl,rfl,rfl,rfl,rfl,rfl,rfl,rfl,rfl,rfl,rfl⟩:=H
 go_enter Tryz.func38,Tryz.ntmps38
 have k38:=True.intro
 have k40:=True.intro
 go_wp2_with (first
  |(go_at_call 39;clear k38;refine (Qk.c k s0 s1 s2 s3 s4 s5 s6 s7 s8 s9 s10 s11 s12 s13 s14 s15 s16 (⟨#[32]⟩:ByteArray) LN_s3.out t1 t2 t3 t4 t5 t6 t7 t8 t9 t10 t11 t12 t13 t14 t15 t16 t17 g _ BKr.out A36.out).mono ?_;rintro e_ w39 ⟨rfl,ln_t4,hB_,hx_⟩;have LN_t4:=hid ln_t4;clear ln_t4;replace HL:=hid (HL.out.bex hx_ HL.out.size (.inl rfl));replace BKr:=hid hB_;clear hx_ hB_)
  |(go_at_call 40;clear k40;refine (Jf.c k t1 t2 t3 t4 t5 t6 t7 t8 t9 t10 t11 t12 t13 t14 t15 t16 t17 1 1000 LN_t4.out t18 t19 t20 t21 t22 t23 t24 t25 t26 t27 t28 t29 t30 t31 t32 t33 t34 t35 g _ BKr.out A37.out).mono ?_;rintro e_ w41 ⟨rfl,ln_t22,hB_,hx_⟩;have LN_t22:=hid ln_t22;clear ln_t22;replace HL:=hid (HL.out.bex hx_ HL.out.size (.inl rfl));replace BKr:=hid hB_;clear hx_ hB_)
  |((with_reducible refine Qa (N:=8) rfl ?_);refine Qb (Pg g 3) (Qc 54 3 (Pg g 0) (Pg g 3) (Xl g) _ rfl rfl) rfl ?_)
  |((with_reducible refine Qa (N:=9) rfl ?_);refine Qb (Pg g 76) (Qc 30 4 (Pg g 3) (Pg g 76) (Qcs g) _ rfl rfl) rfl ?_)
  |((with_reducible refine Qf (t:=3) (p:=9) rfl ?_);refine QH sT3 g (76) (Ii t18) (yv [.string t19,Ii t20,Ii t21] (Value.int .i8) t22 [Ii t23,Ii t24,Ii t25,Ii t26,Ii t27,Ii t28,.bool t29,.bool t30,.bool t31,Ii t32,Ii t33,Ii t34,t35]) (yv [.string t19,Ii t20,Ii t21] (Value.int .i8) t22 [Ii t23,Ii t24,Ii t25,Ii t26,Ii t27,Ii t28,.bool t29,.bool t30,.bool t31,Ii t18,Ii t33,Ii t34,t35]) BKr.out (Xm (a:=3) (n:=64) (c:=13) rfl LN_t22.out rfl (m:=76) (by decide)) rfl rfl ((Kc (a:=3) (n:=64) rfl LN_t22.out 9 76 (by decide) _).trans rfl) rfl _ _ rfl rfl rfl ?_;intro w42 ho_ hB_;replace HL:=hid (HL.out.off ho_ (.inl rfl));replace BKr:=hid hB_;clear ho_ hB_))
 (try simp only [Act.put,sI,sZ,sS])
 (first|go_end0|refine bodyPost_ret (results_none rfl _ _ _) rfl ?_)
 exact ⟨by first|rfl|(simp;done),LN_t22.out,(by exact BKr.out),HL.out⟩
def ZQ.f(k:Nat)(s0:ByteArray)(s1 s2:Int)(s3:List Int)(s4 s5 s6 s7 s8 s9:Int)(s10 s11 s12:Bool)(s13 s14 s15:Int)(s16:Value):Option (ByteArray×Int×Int×(List Int)×Int×Int×Int×Int×Int×Int×Bool×Bool×Bool×Int×Int×Int×Value):=(Qk.f k s0 s1 s2 s3 s4 s5 s6 s7 s8 s9 s10 s11 s12 s13 s14 s15 s16 (⟨#[32]⟩:ByteArray)).bind fun bt1=>((Qj.f k bt1.1 bt1.2.1 bt1.2.2.1 bt1.2.2.2.1 bt1.2.2.2.2.1 bt1.2.2.2.2.2.1 bt1.2.2.2.2.2.2.1 bt1.2.2.2.2.2.2.2.1 bt1.2.2.2.2.2.2.2.2.1 bt1.2.2.2.2.2.2.2.2.2.1 bt1.2.2.2.2.2.2.2.2.2.2.1 bt1.2.2.2.2.2.2.2.2.2.2.2.1 bt1.2.2.2.2.2.2.2.2.2.2.2.2.1 bt1.2.2.2.2.2.2.2.2.2.2.2.2.2.1 bt1.2.2.2.2.2.2.2.2.2.2.2.2.2.2.1 bt1.2.2.2.2.2.2.2.2.2.2.2.2.2.2.2.1 bt1.2.2.2.2.2.2.2.2.2.2.2.2.2.2.2.2).bind fun bt18=>(some (bt18.1,bt18.2.1,bt18.2.2.1,bt18.2.2.2.1,bt18.2.2.2.2.1,bt18.2.2.2.2.2.1,bt18.2.2.2.2.2.2.1,bt18.2.2.2.2.2.2.2.1,bt18.2.2.2.2.2.2.2.2.1,bt18.2.2.2.2.2.2.2.2.2.1,bt18.2.2.2.2.2.2.2.2.2.2.1,bt18.2.2.2.2.2.2.2.2.2.2.2.1,bt18.2.2.2.2.2.2.2.2.2.2.2.2.1,bt18.2.2.2.2.2.2.2.2.2.2.2.2.2.1,bt18.2.2.2.2.2.2.2.2.2.2.2.2.2.2.1,bt18.2.2.2.2.2.2.2.2.2.2.2.2.2.2.2.1,bt18.2.2.2.2.2.2.2.2.2.2.2.2.2.2.2.2)))
theorem ZQ.c(k:Nat)(s0:ByteArray)(s1 s2:Int)(s3:List Int)(s4 s5 s6 s7 s8 s9:Int)(s10 s11 s12:Bool)(s13 s14 s15:Int)(s16:Value)(hls3:s3.length=64)(q0:ByteArray)(q1 q2:Int)(q3:List Int)(q4 q5 q6 q7 q8 q9:Int)(q10 q11 q12:Bool)(q13 q14 q15:Int)(q16:Value)(g:Nat)(w:World)(hB:Blk w g 54 (yv [.string s0,Ii s1,Ii s2] (Value.int .i8) s3 [Ii s4,Ii s5,Ii s6,Ii s7,Ii s8,Ii s9,.bool s10,.bool s11,.bool s12,Ii s13,Ii s14,Ii s15,s16]))(h:ZQ.f k s0 s1 s2 s3 s4 s5 s6 s7 s8 s9 s10 s11 s12 s13 s14 s15 s16=some (q0,q1,q2,q3,q4,q5,q6,q7,q8,q9,q10,q11,q12,q13,q14,q15,q16)):
 Calls Tryz.prog 41 #[Pg g 0] w fun e w'=>e=.returned (.tuple #[])∧q3.length=64∧Blk w' g 54 (yv [.string q0,Ii q1,Ii q2] (Value.int .i8) q3 [Ii q4,Ii q5,Ii q6,Ii q7,Ii q8,Ii q9,.bool q10,.bool q11,.bool q12,Ii q13,Ii q14,Ii q15,q16])∧Bex g w.heap.size w w':=by
 have LN_s3:=hid hls3
 clear hls3
 have BKr:=hid hB
 clear hB
 have HL:=hid (Bex.refl g w.heap.size w)
 have H:((Qk.f k s0 s1 s2 s3 s4 s5 s6 s7 s8 s9 s10 s11 s12 s13 s14 s15 s16 (⟨#[32]⟩:ByteArray)).bind fun bt1=>((Qj.f k bt1.1 bt1.2.1 bt1.2.2.1 bt1.2.2.2.1 bt1.2.2.2.2.1 bt1.2.2.2.2.2.1 bt1.2.2.2.2.2.2.1 bt1.2.2.2.2.2.2.2.1 bt1.2.2.2.2.2.2.2.2.1 bt1.2.2.2.2.2.2.2.2.2.1 bt1.2.2.2.2.2.2.2.2.2.2.1 bt1.2.2.2.2.2.2.2.2.2.2.2.1 bt1.2.2.2.2.2.2.2.2.2.2.2.2.1 bt1.2.2.2.2.2.2.2.2.2.2.2.2.2.1 bt1.2.2.2.2.2.2.2.2.2.2.2.2.2.2.1 bt1.2.2.2.2.2.2.2.2.2.2.2.2.2.2.2.1 bt1.2.2.2.2.2.2.2.2.2.2.2.2.2.2.2.2).bind fun bt18=>(some (bt18.1,bt18.2.1,bt18.2.2.1,bt18.2.2.2.1,bt18.2.2.2.2.1,bt18.2.2.2.2.2.1,bt18.2.2.2.2.2.2.1,bt18.2.2.2.2.2.2.2.1,bt18.2.2.2.2.2.2.2.2.1,bt18.2.2.2.2.2.2.2.2.2.1,bt18.2.2.2.2.2.2.2.2.2.2.1,bt18.2.2.2.2.2.2.2.2.2.2.2.1,bt18.2.2.2.2.2.2.2.2.2.2.2.2.1,bt18.2.2.2.2.2.2.2.2.2.2.2.2.2.1,bt18.2.2.2.2.2.2.2.2.2.2.2.2.2.2.1,bt18.2.2.2.2.2.2.2.2.2.2.2.2.2.2.2.1,bt18.2.2.2.2.2.2.2.2.2.2.2.2.2.2.2.2))))=some (q0,q1,q2,q3,q4,q5,q6,q7,q8,q9,q10,q11,q12,q13,q14,q15,q16):=h
 clear h
 replace H:=Ia H
 obtain ⟨⟨t1,t2,t3,t4,t5,t6,t7,t8,t9,t10,t11,t12,t13,t14,t15,t16,t17⟩,A35_,H⟩:=H
 dsimp only at H
 have A35:=hid A35_
 clear A35_
 replace H:=Ia H
 obtain ⟨⟨t18,t19,t20,t21,t22,t23,t24,t25,t26,t27,t28,t29,t30,t31,t32,t33,t34⟩,A36_,H⟩:=H
 dsimp only at H
 have A36:=hid A36_
 clear A36_
 simp only [Option.some.injEq,Prod.mk.injEq] at H
 obtain ⟨rfl,rfl,rfl,rfl,rfl,rfl,rfl,rfl,rfl,rfl,rfl,rfl,rfl,rfl,rfl,rfl,rfl⟩:=H
 go_enter Tryz.func41,Tryz.ntmps41
 have k37:=True.intro
 have k39:=True.intro
 go_wp2_with (first
  |(go_at_call 39;clear k37;refine (Qk.c k s0 s1 s2 s3 s4 s5 s6 s7 s8 s9 s10 s11 s12 s13 s14 s15 s16 (⟨#[32]⟩:ByteArray) LN_s3.out t1 t2 t3 t4 t5 t6 t7 t8 t9 t10 t11 t12 t13 t14 t15 t16 t17 g _ BKr.out A35.out).mono ?_;rintro e_ w38 ⟨rfl,ln_t4,hB_,hx_⟩;have LN_t4:=hid ln_t4;clear ln_t4;replace HL:=hid (HL.out.bex hx_ HL.out.size (.inl rfl));replace BKr:=hid hB_;clear hx_ hB_)
  |(go_at_call 42;clear k39;refine (Qj.c k t1 t2 t3 t4 t5 t6 t7 t8 t9 t10 t11 t12 t13 t14 t15 t16 t17 LN_t4.out t18 t19 t20 t21 t22 t23 t24 t25 t26 t27 t28 t29 t30 t31 t32 t33 t34 g _ BKr.out A36.out).mono ?_;rintro e_ w40 ⟨rfl,ln_t21,hB_,hx_⟩;have LN_t21:=hid ln_t21;clear ln_t21;replace HL:=hid (HL.out.bex hx_ HL.out.size (.inl rfl));replace BKr:=hid hB_;clear hx_ hB_))
 (try simp only [Act.put,sI,sZ,sS])
 (first|go_end0|refine bodyPost_ret (results_none rfl _ _ _) rfl ?_)
 exact ⟨by first|rfl|(simp;done),LN_t21.out,(by exact BKr.out),HL.out⟩
def ZR.f(k:Nat)(s0:ByteArray)(s1 s2:Int)(s3:List Int)(s4 s5 s6 s7 s8 s9:Int)(s10 s11 s12:Bool)(s13 s14 s15:Int)(s16:Value):Option (ByteArray×Int×Int×(List Int)×Int×Int×Int×Int×Int×Int×Bool×Bool×Bool×Int×Int×Int×Value):=(Qk.f k s0 s1 s2 s3 s4 s5 s6 s7 s8 s9 s10 s11 s12 s13 s14 s15 s16 (⟨#[32]⟩:ByteArray)).bind fun bt1=>(if bt1.2.2.1=0 then ((Je.f k bt1.1 bt1.2.1).bind fun bt18=>((Ql.f bt1.1 bt1.2.1 bt1.2.2.1 bt1.2.2.2.1 bt1.2.2.2.2.1 bt1.2.2.2.2.2.1 bt1.2.2.2.2.2.2.1 bt1.2.2.2.2.2.2.2.1 bt1.2.2.2.2.2.2.2.2.1 bt1.2.2.2.2.2.2.2.2.2.1 bt1.2.2.2.2.2.2.2.2.2.2.1 bt1.2.2.2.2.2.2.2.2.2.2.2.1 bt1.2.2.2.2.2.2.2.2.2.2.2.2.1 bt1.2.2.2.2.2.2.2.2.2.2.2.2.2.1 bt1.2.2.2.2.2.2.2.2.2.2.2.2.2.2.1 bt1.2.2.2.2.2.2.2.2.2.2.2.2.2.2.2.1 bt1.2.2.2.2.2.2.2.2.2.2.2.2.2.2.2.2 bt18.1 bt18.2.1 bt18.2.2).bind fun bt21=>(some (bt21.2.1,bt21.2.2.1,bt21.2.2.2.1,bt21.2.2.2.2.1,bt21.2.2.2.2.2.1,bt21.2.2.2.2.2.2.1,bt21.1,bt21.2.2.2.2.2.2.2.2.1,bt21.2.2.2.2.2.2.2.2.2.1,bt21.2.2.2.2.2.2.2.2.2.2.1,bt21.2.2.2.2.2.2.2.2.2.2.2.1,bt21.2.2.2.2.2.2.2.2.2.2.2.2.1,bt21.2.2.2.2.2.2.2.2.2.2.2.2.2.1,bt21.2.2.2.2.2.2.2.2.2.2.2.2.2.2.1,bt21.2.2.2.2.2.2.2.2.2.2.2.2.2.2.2.1,bt21.2.2.2.2.2.2.2.2.2.2.2.2.2.2.2.2.1,bt21.2.2.2.2.2.2.2.2.2.2.2.2.2.2.2.2.2)))) else (some (bt1.1,bt1.2.1,bt1.2.2.1,bt1.2.2.2.1,bt1.2.2.2.2.1,bt1.2.2.2.2.2.1,bt1.2.2.2.2.2.2.1,bt1.2.2.2.2.2.2.2.1,bt1.2.2.2.2.2.2.2.2.1,bt1.2.2.2.2.2.2.2.2.2.1,bt1.2.2.2.2.2.2.2.2.2.2.1,bt1.2.2.2.2.2.2.2.2.2.2.2.1,bt1.2.2.2.2.2.2.2.2.2.2.2.2.1,bt1.2.2.2.2.2.2.2.2.2.2.2.2.2.1,bt1.2.2.2.2.2.2.2.2.2.2.2.2.2.2.1,bt1.2.2.2.2.2.2.2.2.2.2.2.2.2.2.2.1,bt1.2.2.2.2.2.2.2.2.2.2.2.2.2.2.2.2)))
theorem ZR.c(k:Nat)(s0:ByteArray)(s1 s2:Int)(s3:List Int)(s4 s5 s6 s7 s8 s9:Int)(s10 s11 s12:Bool)(s13 s14 s15:Int)(s16:Value)(hls3:s3.length=64)(q0:ByteArray)(q1 q2:Int)(q3:List Int)(q4 q5 q6 q7 q8 q9:Int)(q10 q11 q12:Bool)(q13 q14 q15:Int)(q16:Value)(g:Nat)(w:World)(hB:Blk w g 54 (yv [.string s0,Ii s1,Ii s2] (Value.int .i8) s3 [Ii s4,Ii s5,Ii s6,Ii s7,Ii s8,Ii s9,.bool s10,.bool s11,.bool s12,Ii s13,Ii s14,Ii s15,s16]))(h:ZR.f k s0 s1 s2 s3 s4 s5 s6 s7 s8 s9 s10 s11 s12 s13 s14 s15 s16=some (q0,q1,q2,q3,q4,q5,q6,q7,q8,q9,q10,q11,q12,q13,q14,q15,q16)):
 Calls Tryz.prog 43 #[Pg g 0] w fun e w'=>e=.returned (.tuple #[])∧q3.length=64∧Blk w' g 54 (yv [.string q0,Ii q1,Ii q2] (Value.int .i8) q3 [Ii q4,Ii q5,Ii q6,Ii q7,Ii q8,Ii q9,.bool q10,.bool q11,.bool q12,Ii q13,Ii q14,Ii q15,q16])∧Bex g w.heap.size w w':=by
 have LN_s3:=hid hls3
 clear hls3
 have BKr:=hid hB
 clear hB
 have HL:=hid (Bex.refl g w.heap.size w)
 have H:((Qk.f k s0 s1 s2 s3 s4 s5 s6 s7 s8 s9 s10 s11 s12 s13 s14 s15 s16 (⟨#[32]⟩:ByteArray)).bind fun bt1=>(if bt1.2.2.1=0 then ((Je.f k bt1.1 bt1.2.1).bind fun bt18=>((Ql.f bt1.1 bt1.2.1 bt1.2.2.1 bt1.2.2.2.1 bt1.2.2.2.2.1 bt1.2.2.2.2.2.1 bt1.2.2.2.2.2.2.1 bt1.2.2.2.2.2.2.2.1 bt1.2.2.2.2.2.2.2.2.1 bt1.2.2.2.2.2.2.2.2.2.1 bt1.2.2.2.2.2.2.2.2.2.2.1 bt1.2.2.2.2.2.2.2.2.2.2.2.1 bt1.2.2.2.2.2.2.2.2.2.2.2.2.1 bt1.2.2.2.2.2.2.2.2.2.2.2.2.2.1 bt1.2.2.2.2.2.2.2.2.2.2.2.2.2.2.1 bt1.2.2.2.2.2.2.2.2.2.2.2.2.2.2.2.1 bt1.2.2.2.2.2.2.2.2.2.2.2.2.2.2.2.2 bt18.1 bt18.2.1 bt18.2.2).bind fun bt21=>(some (bt21.2.1,bt21.2.2.1,bt21.2.2.2.1,bt21.2.2.2.2.1,bt21.2.2.2.2.2.1,bt21.2.2.2.2.2.2.1,bt21.1,bt21.2.2.2.2.2.2.2.2.1,bt21.2.2.2.2.2.2.2.2.2.1,bt21.2.2.2.2.2.2.2.2.2.2.1,bt21.2.2.2.2.2.2.2.2.2.2.2.1,bt21.2.2.2.2.2.2.2.2.2.2.2.2.1,bt21.2.2.2.2.2.2.2.2.2.2.2.2.2.1,bt21.2.2.2.2.2.2.2.2.2.2.2.2.2.2.1,bt21.2.2.2.2.2.2.2.2.2.2.2.2.2.2.2.1,bt21.2.2.2.2.2.2.2.2.2.2.2.2.2.2.2.2.1,bt21.2.2.2.2.2.2.2.2.2.2.2.2.2.2.2.2.2)))) else (some (bt1.1,bt1.2.1,bt1.2.2.1,bt1.2.2.2.1,bt1.2.2.2.2.1,bt1.2.2.2.2.2.1,bt1.2.2.2.2.2.2.1,bt1.2.2.2.2.2.2.2.1,bt1.2.2.2.2.2.2.2.2.1,bt1.2.2.2.2.2.2.2.2.2.1,bt1.2.2.2.2.2.2.2.2.2.2.1,bt1.2.2.2.2.2.2.2.2.2.2.2.1,bt1.2.2.2.2.2.2.2.2.2.2.2.2.1,bt1.2.2.2.2.2.2.2.2.2.2.2.2.2.1,bt1.2.2.2.2.2.2.2.2.2.2.2.2.2.2.1,bt1.2.2.2.2.2.2.2.2.2.2.2.2.2.2.2.1,bt1.2.2.2.2.2.2.2.2.2.2.2.2.2.2.2.2))))=some (q0,q1,q2,q3,q4,q5,q6,q7,q8,q9,q10,q11,q12,q13,q14,q15,q16):=h
 clear h
 replace H:=Ia H
 obtain ⟨⟨t1,t2,t3,t4,t5,t6,t7,t8,t9,t10,t11,t12,t13,t14,t15,t16,t17⟩,A39_,H⟩:=H
 dsimp only at H
 have A39:=hid A39_
 clear A39_
 by_cases c40:t3=0
 ·
  rw [if_pos c40] at H
  have c40b0:(t3==0)=true:=beq_iff_eq.mpr c40
  have c40b1:(t3 != 0)=false:=bne_eq_false_iff_eq.mpr c40
  have hc40:=hid c40
  clear c40
  replace H:=Ia H
  obtain ⟨⟨t18,t19,t20⟩,A41_,H⟩:=H
  dsimp only at H
  have A41:=hid A41_
  clear A41_
  replace H:=Ia H
  obtain ⟨⟨t21,t22,t23,t24,t25,t26,t27,t28,t29,t30,t31,t32,t33,t34,t35,t36,t37,t38⟩,A42_,H⟩:=H
  dsimp only at H
  have A42:=hid A42_
  clear A42_
  simp only [Option.some.injEq,Prod.mk.injEq] at H
  obtain ⟨rfl,rfl,rfl,rfl,rfl,rfl,rfl,rfl,rfl,rfl,rfl,rfl,rfl,rfl,rfl,rfl,rfl⟩:=H
  go_enter Tryz.func43,Tryz.ntmps43
  have k43:=True.intro
  go_wp2_with (first
   |(go_at_call 39;clear k43;refine (Qk.c k s0 s1 s2 s3 s4 s5 s6 s7 s8 s9 s10 s11 s12 s13 s14 s15 s16 (⟨#[32]⟩:ByteArray) LN_s3.out t1 t2 t3 t4 t5 t6 t7 t8 t9 t10 t11 t12 t13 t14 t15 t16 t17 g _ BKr.out A39.out).mono ?_;rintro e_ w44 ⟨rfl,ln_t4,hB_,hx_⟩;have LN_t4:=hid ln_t4;clear ln_t4;replace HL:=hid (HL.out.bex hx_ HL.out.size (.inl rfl));replace BKr:=hid hB_;clear hx_ hB_)
   |((with_reducible refine Qa (N:=6) rfl ?_);refine Qb (Pg g 2) (Qc 54 2 (Pg g 0) (Pg g 2) (Jt g) _ rfl rfl) rfl ?_)
   |((with_reducible refine Qa (N:=7) rfl ?_);refine Qb (Ii t3) (Qd Zk g (2) (Ii t3) ((yv [.string t1,Ii t2,Ii t3] (Value.int .i8) t4 [Ii t5,Ii t6,Ii t7,Ii t8,Ii t9,Ii t10,.bool t11,.bool t12,.bool t13,Ii t14,Ii t15,Ii t16,t17])) BKr.out ((QC (a:=3) rfl 2 (by decide)).trans rfl) _ rfl rfl) rfl ?_))
  (try simp only [Act.put,sI,sZ,sS])
  have WR64:=Zs
  have WR32:=ZA
  have WR8:=Ko
  have WRU:=ZY
  refine QL (fun z_=>Bex g w.heap.size w z_∧Blk z_ g 54 (yv [.string t1,Ii t2,Ii t3] (Value.int .i8) t4 [Ii t5,Ii t6,Ii t7,Ii t8,Ii t9,Ii t10,.bool t11,.bool t12,.bool t13,Ii t14,Ii t15,Ii t16,t17])∧True) [10,11,16] [(0,2),(1,2),(2,2),(3,2),(4,2),(5,1),(6,2),(7,2),(8,2),(9,1),(10,0),(11,0),(12,2),(13,2),(14,2),(15,2),(16,0)] (by kernel_rfl) (by kernel_rfl) (by kernel_rfl) rfl ?_
  intro w45 hb_
  replace BKr:=hid (BKr.out.below hb_ BKr.out.lt)
  replace HL:=hid (HL.out.below hb_ HL.out.size)
  clear hb_
  refine Qe (Pg g 0) rfl (fun z_=>Qo (.tmp 0) (.inl rfl) _ rfl) rfl rfl ?_
  intro t_ k_;simp only [sI,sZ,sS] at k_;subst k_
  refine Qe (Pg g 0) rfl (fun z_=>Qo (.tmp 0) (.inl rfl) _ rfl) rfl rfl ?_
  intro t_ k_;simp only [sI,sZ,sS] at k_;subst k_
  refine Qe (Pg g 0) rfl (fun z_=>Qo (.tmp 0) (.inl rfl) _ rfl) rfl rfl ?_
  intro t_ k_;simp only [sI,sZ,sS] at k_;subst k_
  refine Qe (Pg g 0) rfl (fun z_=>by go_simp <;> (unfold wrap64;omega)) rfl rfl ?_
  intro t_ k_;simp only [sI,sZ,sS] at k_;subst k_
  refine Qe (Pg g 0) rfl (fun z_=>Qc 54 0 (Pg g 0) (Pg g 0) (KF g) _ rfl rfl) rfl rfl ?_
  intro t_ k_;simp only [sI,sZ,sS] at k_;subst k_
  refine QA (.string t1) ⟨HL.out,BKr.out,trivial⟩ rfl (fun z_ hS_=>Qd sT9 g (0) (.string t1) ((yv [.string t1,Ii t2,Ii t3] (Value.int .i8) t4 [Ii t5,Ii t6,Ii t7,Ii t8,Ii t9,Ii t10,.bool t11,.bool t12,.bool t13,Ii t14,Ii t15,Ii t16,t17])) hS_.2.1 ((QC (a:=3) rfl 0 (by decide)).trans rfl) _ rfl rfl) rfl rfl ?_
  intro t_ k_;simp only [sI,sZ,sS] at k_;subst k_
  refine Qe (Pg g 0) rfl (fun z_=>Qo (.tmp 0) (.inl rfl) _ rfl) rfl rfl ?_
  intro t_ k_;simp only [sI,sZ,sS] at k_;subst k_
  refine Qe (Pg g 0) rfl (fun z_=>by go_simp <;> (unfold wrap64;omega)) rfl rfl ?_
  intro t_ k_;simp only [sI,sZ,sS] at k_;subst k_
  refine Qe (Pg g 1) rfl (fun z_=>Qc 54 1 (Pg g 0) (Pg g 1) (JT g) _ rfl rfl) rfl rfl ?_
  intro t_ k_;simp only [sI,sZ,sS] at k_;subst k_
  refine QA (Ii t2) ⟨HL.out,BKr.out,trivial⟩ rfl (fun z_ hS_=>Qd sT3 g (1) (Ii t2) ((yv [.string t1,Ii t2,Ii t3] (Value.int .i8) t4 [Ii t5,Ii t6,Ii t7,Ii t8,Ii t9,Ii t10,.bool t11,.bool t12,.bool t13,Ii t14,Ii t15,Ii t16,t17])) hS_.2.1 ((QC (a:=3) rfl 1 (by decide)).trans rfl) _ rfl rfl) rfl rfl ?_
  intro t_ k_;simp only [sI,sZ,sS] at k_;subst k_
  refine QV rfl (fun Q'_ hQ_=>?_)
  refine Jr 45 #[.string t1,Ii t2] (by go_simp) rfl ((Je.c k t1 t2 t18 t19 t20 _ A41.out).mono ?_)
  rintro e_ w47 ⟨rfl,hb_⟩
  replace BKr:=hid (BKr.out.below hb_ BKr.out.lt)
  replace HL:=hid (HL.out.below hb_ HL.out.size)
  clear hb_
  refine ⟨_,rfl,?_⟩
  refine hQ_ _ _ (fun h_=>absurd h_ (by decide)) ?_
  clear hQ_ Q'_
  simp only [Act.put,sI,sZ,sS]
  refine QV rfl (fun Q'_ hQ_=>?_)
  refine Jr 44 #[Pg g 0,.agg #[Ii t18,Ii t19,Ii t20]] (by go_simp) rfl ((Ql.c t1 t2 t3 t4 t5 t6 t7 t8 t9 t10 t11 t12 t13 t14 t15 t16 t17 t18 t19 t20 LN_t4.out t21 t22 t23 t24 t25 t26 t27 t28 t29 t30 t31 t32 t33 t34 t35 t36 t37 t38 g _ BKr.out A42.out).mono ?_)
  rintro e_ w49 ⟨rfl,ln_t25,hB_,hx_⟩
  have LN_t25:=hid ln_t25
  clear ln_t25
  replace HL:=hid (HL.out.bex hx_ HL.out.size (.inl rfl))
  replace BKr:=hid hB_
  clear hx_ hB_
  refine ⟨_,rfl,?_⟩
  refine hQ_ _ _ (fun h_=>absurd h_ (by decide)) ?_
  clear hQ_ Q'_
  simp only [Act.put,sI,sZ,sS]
  refine Qe (Pg g 0) rfl (fun z_=>by go_simp <;> (unfold wrap64;omega)) rfl rfl ?_
  intro t_ k_;simp only [sI,sZ,sS] at k_;subst k_
  refine Qe (Pg g 3) rfl (fun z_=>Qc 54 3 (Pg g 0) (Pg g 3) (Xl g) _ rfl rfl) rfl rfl ?_
  intro t_ k_;simp only [sI,sZ,sS] at k_;subst k_
  refine Qe (Pg g 3) rfl (fun z_=>Qc 30 0 (Pg g 3) (Pg g 3) (KG g) _ rfl rfl) rfl rfl ?_
  intro t_ k_;simp only [sI,sZ,sS] at k_;subst k_
  refine Qe (Pg g 69) rfl (fun z_=>Qc 26 3 (Pg g 3) (Pg g 69) (Qct g) _ rfl rfl) rfl rfl ?_
  intro t_ k_;simp only [sI,sZ,sS] at k_;subst k_
  refine QV rfl (fun Q'_ hQ_=>?_)
  (with_reducible refine Qf (t:=3) (p:=24) rfl ?_)
  refine QH sT3 g (69) (Ii t21) (yv [.string t22,Ii t23,Ii t24] (Value.int .i8) t25 [Ii t26,Ii t27,Ii t28,Ii t29,Ii t30,Ii t31,.bool t32,.bool t33,.bool t34,Ii t35,Ii t36,Ii t37,t38]) (yv [.string t22,Ii t23,Ii t24] (Value.int .i8) t25 [Ii t26,Ii t27,Ii t21,Ii t29,Ii t30,Ii t31,.bool t32,.bool t33,.bool t34,Ii t35,Ii t36,Ii t37,t38]) BKr.out (Xm (a:=3) (n:=64) (c:=13) rfl LN_t25.out rfl (m:=69) (by decide)) rfl rfl ((Kc (a:=3) (n:=64) rfl LN_t25.out 2 69 (by decide) _).trans rfl) rfl _ _ rfl rfl rfl ?_
  intro w50 ho_ hB_
  replace HL:=hid (HL.out.off ho_ (.inl rfl))
  replace BKr:=hid hB_
  clear ho_ hB_
  refine Qz ?_
  refine hQ_ _ _ (fun h_=>absurd h_ (by decide)) ?_
  clear hQ_ Q'_
  simp only [Act.put]
  refine JH ?_
  clear WR64 WR32 WR8 WRU
  go_wp2_with fail
  (try simp only [Act.put,sI,sZ,sS])
  (first|go_end0|refine bodyPost_ret (results_none rfl _ _ _) rfl ?_)
  exact ⟨by first|rfl|(simp;done),LN_t25.out,(by exact BKr.out),HL.out⟩
 ·
  rw [if_neg c40] at H
  have c40b0:(t3==0)=false:=beq_eq_false_iff_ne.mpr c40
  have c40b1:(t3 != 0)=true:=bne_iff_ne.mpr c40
  have hc40:=hid c40
  clear c40
  simp only [Option.some.injEq,Prod.mk.injEq] at H
  obtain ⟨rfl,rfl,rfl,rfl,rfl,rfl,rfl,rfl,rfl,rfl,rfl,rfl,rfl,rfl,rfl,rfl,rfl⟩:=H
  go_enter Tryz.func43,Tryz.ntmps43
  have k51:=True.intro
  go_wp2_with (first
   |(go_at_call 39;clear k51;refine (Qk.c k s0 s1 s2 s3 s4 s5 s6 s7 s8 s9 s10 s11 s12 s13 s14 s15 s16 (⟨#[32]⟩:ByteArray) LN_s3.out t1 t2 t3 t4 t5 t6 t7 t8 t9 t10 t11 t12 t13 t14 t15 t16 t17 g _ BKr.out A39.out).mono ?_;rintro e_ w52 ⟨rfl,ln_t4,hB_,hx_⟩;have LN_t4:=hid ln_t4;clear ln_t4;replace HL:=hid (HL.out.bex hx_ HL.out.size (.inl rfl));replace BKr:=hid hB_;clear hx_ hB_)
   |((with_reducible refine Qa (N:=6) rfl ?_);refine Qb (Pg g 2) (Qc 54 2 (Pg g 0) (Pg g 2) (Jt g) _ rfl rfl) rfl ?_)
   |((with_reducible refine Qa (N:=7) rfl ?_);refine Qb (Ii t3) (Qd Zk g (2) (Ii t3) ((yv [.string t1,Ii t2,Ii t3] (Value.int .i8) t4 [Ii t5,Ii t6,Ii t7,Ii t8,Ii t9,Ii t10,.bool t11,.bool t12,.bool t13,Ii t14,Ii t15,Ii t16,t17])) BKr.out ((QC (a:=3) rfl 2 (by decide)).trans rfl) _ rfl rfl) rfl ?_))
  (try simp only [Act.put,sI,sZ,sS])
  (first|go_end0|refine bodyPost_ret (results_none rfl _ _ _) rfl ?_)
  exact ⟨by first|rfl|(simp;done),LN_t4.out,(by exact BKr.out),HL.out⟩
def ZS.f(k:Nat)(s0:ByteArray)(s1 s2:Int)(s3:List Int)(s4 s5 s6 s7 s8 s9:Int)(s10 s11 s12:Bool)(s13 s14 s15:Int)(s16:Value):Option (ByteArray×Int×Int×(List Int)×Int×Int×Int×Int×Int×Int×Bool×Bool×Bool×Int×Int×Int×Value):=(Qk.f k s0 s1 s2 s3 s4 s5 s6 s7 s8 s9 s10 s11 s12 s13 s14 s15 s16 (⟨#[32]⟩:ByteArray)).bind fun bt1=>((Jf.f k bt1.1 bt1.2.1 bt1.2.2.1 bt1.2.2.2.1 bt1.2.2.2.2.1 bt1.2.2.2.2.2.1 bt1.2.2.2.2.2.2.1 bt1.2.2.2.2.2.2.2.1 bt1.2.2.2.2.2.2.2.2.1 bt1.2.2.2.2.2.2.2.2.2.1 bt1.2.2.2.2.2.2.2.2.2.2.1 bt1.2.2.2.2.2.2.2.2.2.2.2.1 bt1.2.2.2.2.2.2.2.2.2.2.2.2.1 bt1.2.2.2.2.2.2.2.2.2.2.2.2.2.1 bt1.2.2.2.2.2.2.2.2.2.2.2.2.2.2.1 bt1.2.2.2.2.2.2.2.2.2.2.2.2.2.2.2.1 bt1.2.2.2.2.2.2.2.2.2.2.2.2.2.2.2.2 0 4).bind fun bt18=>(some (bt18.2.1,bt18.2.2.1,bt18.2.2.2.1,bt18.2.2.2.2.1,bt18.2.2.2.2.2.1,bt18.2.2.2.2.2.2.1,bt18.2.2.2.2.2.2.2.1,bt18.2.2.2.2.2.2.2.2.1,bt18.2.2.2.2.2.2.2.2.2.1,bt18.2.2.2.2.2.2.2.2.2.2.1,bt18.2.2.2.2.2.2.2.2.2.2.2.1,bt18.2.2.2.2.2.2.2.2.2.2.2.2.1,bt18.2.2.2.2.2.2.2.2.2.2.2.2.2.1,bt18.2.2.2.2.2.2.2.2.2.2.2.2.2.2.1,bt18.1,bt18.2.2.2.2.2.2.2.2.2.2.2.2.2.2.2.2.1,bt18.2.2.2.2.2.2.2.2.2.2.2.2.2.2.2.2.2)))
theorem ZS.c(k:Nat)(s0:ByteArray)(s1 s2:Int)(s3:List Int)(s4 s5 s6 s7 s8 s9:Int)(s10 s11 s12:Bool)(s13 s14 s15:Int)(s16:Value)(hls3:s3.length=64)(q0:ByteArray)(q1 q2:Int)(q3:List Int)(q4 q5 q6 q7 q8 q9:Int)(q10 q11 q12:Bool)(q13 q14 q15:Int)(q16:Value)(g:Nat)(w:World)(hB:Blk w g 54 (yv [.string s0,Ii s1,Ii s2] (Value.int .i8) s3 [Ii s4,Ii s5,Ii s6,Ii s7,Ii s8,Ii s9,.bool s10,.bool s11,.bool s12,Ii s13,Ii s14,Ii s15,s16]))(h:ZS.f k s0 s1 s2 s3 s4 s5 s6 s7 s8 s9 s10 s11 s12 s13 s14 s15 s16=some (q0,q1,q2,q3,q4,q5,q6,q7,q8,q9,q10,q11,q12,q13,q14,q15,q16)):
 Calls Tryz.prog 46 #[Pg g 0] w fun e w'=>e=.returned (.tuple #[])∧q3.length=64∧Blk w' g 54 (yv [.string q0,Ii q1,Ii q2] (Value.int .i8) q3 [Ii q4,Ii q5,Ii q6,Ii q7,Ii q8,Ii q9,.bool q10,.bool q11,.bool q12,Ii q13,Ii q14,Ii q15,q16])∧Bex g w.heap.size w w':=by
 have LN_s3:=hid hls3
 clear hls3
 have BKr:=hid hB
 clear hB
 have HL:=hid (Bex.refl g w.heap.size w)
 have H:((Qk.f k s0 s1 s2 s3 s4 s5 s6 s7 s8 s9 s10 s11 s12 s13 s14 s15 s16 (⟨#[32]⟩:ByteArray)).bind fun bt1=>((Jf.f k bt1.1 bt1.2.1 bt1.2.2.1 bt1.2.2.2.1 bt1.2.2.2.2.1 bt1.2.2.2.2.2.1 bt1.2.2.2.2.2.2.1 bt1.2.2.2.2.2.2.2.1 bt1.2.2.2.2.2.2.2.2.1 bt1.2.2.2.2.2.2.2.2.2.1 bt1.2.2.2.2.2.2.2.2.2.2.1 bt1.2.2.2.2.2.2.2.2.2.2.2.1 bt1.2.2.2.2.2.2.2.2.2.2.2.2.1 bt1.2.2.2.2.2.2.2.2.2.2.2.2.2.1 bt1.2.2.2.2.2.2.2.2.2.2.2.2.2.2.1 bt1.2.2.2.2.2.2.2.2.2.2.2.2.2.2.2.1 bt1.2.2.2.2.2.2.2.2.2.2.2.2.2.2.2.2 0 4).bind fun bt18=>(some (bt18.2.1,bt18.2.2.1,bt18.2.2.2.1,bt18.2.2.2.2.1,bt18.2.2.2.2.2.1,bt18.2.2.2.2.2.2.1,bt18.2.2.2.2.2.2.2.1,bt18.2.2.2.2.2.2.2.2.1,bt18.2.2.2.2.2.2.2.2.2.1,bt18.2.2.2.2.2.2.2.2.2.2.1,bt18.2.2.2.2.2.2.2.2.2.2.2.1,bt18.2.2.2.2.2.2.2.2.2.2.2.2.1,bt18.2.2.2.2.2.2.2.2.2.2.2.2.2.1,bt18.2.2.2.2.2.2.2.2.2.2.2.2.2.2.1,bt18.1,bt18.2.2.2.2.2.2.2.2.2.2.2.2.2.2.2.2.1,bt18.2.2.2.2.2.2.2.2.2.2.2.2.2.2.2.2.2))))=some (q0,q1,q2,q3,q4,q5,q6,q7,q8,q9,q10,q11,q12,q13,q14,q15,q16):=h
 clear h
 replace H:=Ia H
 obtain ⟨⟨t1,t2,t3,t4,t5,t6,t7,t8,t9,t10,t11,t12,t13,t14,t15,t16,t17⟩,A36_,H⟩:=H
 dsimp only at H
 have A36:=hid A36_
 clear A36_
 replace H:=Ia H
 obtain ⟨⟨t18,t19,t20,t21,t22,t23,t24,t25,t26,t27,t28,t29,t30,t31,t32,t33,t34,t35⟩,A37_,H⟩:=H
 dsimp only at H
 have A37:=hid A37_
 clear A37_
 simp only [Option.some.injEq,Prod.mk.injEq] at H
 obtain ⟨rfl,rfl,rfl,rfl,rfl,rfl,rfl,rfl,rfl,rfl,rfl,rfl,rfl,rfl,rfl,rfl,rfl⟩:=H
 go_enter Tryz.func46,Tryz.ntmps46
 have k38:=True.intro
 have k40:=True.intro
 go_wp2_with (first
  |(go_at_call 39;clear k38;refine (Qk.c k s0 s1 s2 s3 s4 s5 s6 s7 s8 s9 s10 s11 s12 s13 s14 s15 s16 (⟨#[32]⟩:ByteArray) LN_s3.out t1 t2 t3 t4 t5 t6 t7 t8 t9 t10 t11 t12 t13 t14 t15 t16 t17 g _ BKr.out A36.out).mono ?_;rintro e_ w39 ⟨rfl,ln_t4,hB_,hx_⟩;have LN_t4:=hid ln_t4;clear ln_t4;replace HL:=hid (HL.out.bex hx_ HL.out.size (.inl rfl));replace BKr:=hid hB_;clear hx_ hB_)
  |(go_at_call 40;clear k40;refine (Jf.c k t1 t2 t3 t4 t5 t6 t7 t8 t9 t10 t11 t12 t13 t14 t15 t16 t17 0 4 LN_t4.out t18 t19 t20 t21 t22 t23 t24 t25 t26 t27 t28 t29 t30 t31 t32 t33 t34 t35 g _ BKr.out A37.out).mono ?_;rintro e_ w41 ⟨rfl,ln_t22,hB_,hx_⟩;have LN_t22:=hid ln_t22;clear ln_t22;replace HL:=hid (HL.out.bex hx_ HL.out.size (.inl rfl));replace BKr:=hid hB_;clear hx_ hB_)
  |((with_reducible refine Qa (N:=8) rfl ?_);refine Qb (Pg g 3) (Qc 54 3 (Pg g 0) (Pg g 3) (Xl g) _ rfl rfl) rfl ?_)
  |((with_reducible refine Qa (N:=9) rfl ?_);refine Qb (Pg g 77) (Qc 30 5 (Pg g 3) (Pg g 77) (Qcu g) _ rfl rfl) rfl ?_)
  |((with_reducible refine Qf (t:=3) (p:=9) rfl ?_);refine QH sT3 g (77) (Ii t18) (yv [.string t19,Ii t20,Ii t21] (Value.int .i8) t22 [Ii t23,Ii t24,Ii t25,Ii t26,Ii t27,Ii t28,.bool t29,.bool t30,.bool t31,Ii t32,Ii t33,Ii t34,t35]) (yv [.string t19,Ii t20,Ii t21] (Value.int .i8) t22 [Ii t23,Ii t24,Ii t25,Ii t26,Ii t27,Ii t28,.bool t29,.bool t30,.bool t31,Ii t32,Ii t18,Ii t34,t35]) BKr.out (Xm (a:=3) (n:=64) (c:=13) rfl LN_t22.out rfl (m:=77) (by decide)) rfl rfl ((Kc (a:=3) (n:=64) rfl LN_t22.out 10 77 (by decide) _).trans rfl) rfl _ _ rfl rfl rfl ?_;intro w42 ho_ hB_;replace HL:=hid (HL.out.off ho_ (.inl rfl));replace BKr:=hid hB_;clear ho_ hB_))
 (try simp only [Act.put,sI,sZ,sS])
 (first|go_end0|refine bodyPost_ret (results_none rfl _ _ _) rfl ?_)
 exact ⟨by first|rfl|(simp;done),LN_t22.out,(by exact BKr.out),HL.out⟩
def Zb.f(k:Nat)(s0:ByteArray)(s1 s2:Int)(s3:List Int)(s4 s5 s6 s7 s8 s9:Int)(s10 s11 s12:Bool)(s13 s14 s15:Int)(s16:Value):Option (ByteArray×Int×Int×(List Int)×Int×Int×Int×Int×Int×Int×Bool×Bool×Bool×Int×Int×Int×Value):=(Qk.f k s0 s1 s2 s3 s4 s5 s6 s7 s8 s9 s10 s11 s12 s13 s14 s15 s16 (⟨#[98,101,103,105,110,10]⟩:ByteArray)).bind fun bt1=>((Qt.f k bt1.1 bt1.2.1 bt1.2.2.1 bt1.2.2.2.1 bt1.2.2.2.2.1 bt1.2.2.2.2.2.1 bt1.2.2.2.2.2.2.1 bt1.2.2.2.2.2.2.2.1 bt1.2.2.2.2.2.2.2.2.1 bt1.2.2.2.2.2.2.2.2.2.1 bt1.2.2.2.2.2.2.2.2.2.2.1 bt1.2.2.2.2.2.2.2.2.2.2.2.1 bt1.2.2.2.2.2.2.2.2.2.2.2.2.1 bt1.2.2.2.2.2.2.2.2.2.2.2.2.2.1 bt1.2.2.2.2.2.2.2.2.2.2.2.2.2.2.1 bt1.2.2.2.2.2.2.2.2.2.2.2.2.2.2.2.1 bt1.2.2.2.2.2.2.2.2.2.2.2.2.2.2.2.2 [(⟨#[102,111,114,115,121,116,104,32]⟩:ByteArray),(⟨#[112,105,101,99,101,115,32]⟩:ByteArray)]).bind fun bt19=>(if bt19.1=0 then ((QT.f k bt19.2.1 bt19.2.2.1 bt19.2.2.2.1 bt19.2.2.2.2.1 bt19.2.2.2.2.2.1 bt19.2.2.2.2.2.2.1 bt19.2.2.2.2.2.2.2.1 bt19.2.2.2.2.2.2.2.2.1 bt19.2.2.2.2.2.2.2.2.2.1 bt19.2.2.2.2.2.2.2.2.2.2.1 bt19.2.2.2.2.2.2.2.2.2.2.2.1 bt19.2.2.2.2.2.2.2.2.2.2.2.2.1 bt19.2.2.2.2.2.2.2.2.2.2.2.2.2.1 bt19.2.2.2.2.2.2.2.2.2.2.2.2.2.2.1 bt19.2.2.2.2.2.2.2.2.2.2.2.2.2.2.2.1 bt19.2.2.2.2.2.2.2.2.2.2.2.2.2.2.2.2.1 bt19.2.2.2.2.2.2.2.2.2.2.2.2.2.2.2.2.2 48).bind fun bt37=>(some (bt37.1,bt37.2.1,bt37.2.2.1,bt37.2.2.2.1,bt37.2.2.2.2.1,bt37.2.2.2.2.2.1,bt37.2.2.2.2.2.2.1,bt37.2.2.2.2.2.2.2.1,bt37.2.2.2.2.2.2.2.2.1,bt37.2.2.2.2.2.2.2.2.2.1,bt37.2.2.2.2.2.2.2.2.2.2.1,bt37.2.2.2.2.2.2.2.2.2.2.2.1,bt37.2.2.2.2.2.2.2.2.2.2.2.2.1,bt37.2.2.2.2.2.2.2.2.2.2.2.2.2.1,bt37.2.2.2.2.2.2.2.2.2.2.2.2.2.2.1,bt37.2.2.2.2.2.2.2.2.2.2.2.2.2.2.2.1,bt37.2.2.2.2.2.2.2.2.2.2.2.2.2.2.2.2))) else ((QT.f k bt19.2.1 bt19.2.2.1 bt19.2.2.2.1 bt19.2.2.2.2.1 bt19.2.2.2.2.2.1 bt19.2.2.2.2.2.2.1 bt19.2.2.2.2.2.2.2.1 bt19.2.2.2.2.2.2.2.2.1 bt19.2.2.2.2.2.2.2.2.2.1 bt19.2.2.2.2.2.2.2.2.2.2.1 bt19.2.2.2.2.2.2.2.2.2.2.2.1 bt19.2.2.2.2.2.2.2.2.2.2.2.2.1 bt19.2.2.2.2.2.2.2.2.2.2.2.2.2.1 bt19.2.2.2.2.2.2.2.2.2.2.2.2.2.2.1 bt19.2.2.2.2.2.2.2.2.2.2.2.2.2.2.2.1 bt19.2.2.2.2.2.2.2.2.2.2.2.2.2.2.2.2.1 bt19.2.2.2.2.2.2.2.2.2.2.2.2.2.2.2.2.2 49).bind fun bt54=>(some (bt54.1,bt54.2.1,bt54.2.2.1,bt54.2.2.2.1,bt54.2.2.2.2.1,bt54.2.2.2.2.2.1,bt54.2.2.2.2.2.2.1,bt54.2.2.2.2.2.2.2.1,bt54.2.2.2.2.2.2.2.2.1,bt54.2.2.2.2.2.2.2.2.2.1,bt54.2.2.2.2.2.2.2.2.2.2.1,bt54.2.2.2.2.2.2.2.2.2.2.2.1,bt54.2.2.2.2.2.2.2.2.2.2.2.2.1,bt54.2.2.2.2.2.2.2.2.2.2.2.2.2.1,bt54.2.2.2.2.2.2.2.2.2.2.2.2.2.2.1,bt54.2.2.2.2.2.2.2.2.2.2.2.2.2.2.2.1,bt54.2.2.2.2.2.2.2.2.2.2.2.2.2.2.2.2)))))
theorem Zb.c(k:Nat)(s0:ByteArray)(s1 s2:Int)(s3:List Int)(s4 s5 s6 s7 s8 s9:Int)(s10 s11 s12:Bool)(s13 s14 s15:Int)(s16:Value)(hls3:s3.length=64)(q0:ByteArray)(q1 q2:Int)(q3:List Int)(q4 q5 q6 q7 q8 q9:Int)(q10 q11 q12:Bool)(q13 q14 q15:Int)(q16:Value)(g:Nat)(w:World)(hB:Blk w g 54 (yv [.string s0,Ii s1,Ii s2] (Value.int .i8) s3 [Ii s4,Ii s5,Ii s6,Ii s7,Ii s8,Ii s9,.bool s10,.bool s11,.bool s12,Ii s13,Ii s14,Ii s15,s16]))(h:Zb.f k s0 s1 s2 s3 s4 s5 s6 s7 s8 s9 s10 s11 s12 s13 s14 s15 s16=some (q0,q1,q2,q3,q4,q5,q6,q7,q8,q9,q10,q11,q12,q13,q14,q15,q16)):
 Calls Tryz.prog 18 #[Pg g 0] w fun e w'=>e=.returned (.tuple #[])∧q3.length=64∧Blk w' g 54 (yv [.string q0,Ii q1,Ii q2] (Value.int .i8) q3 [Ii q4,Ii q5,Ii q6,Ii q7,Ii q8,Ii q9,.bool q10,.bool q11,.bool q12,Ii q13,Ii q14,Ii q15,q16])∧Bex g w.heap.size w w':=by
 have LN_s3:=hid hls3
 clear hls3
 have BKr:=hid hB
 clear hB
 have HL:=hid (Bex.refl g w.heap.size w)
 have H:((Qk.f k s0 s1 s2 s3 s4 s5 s6 s7 s8 s9 s10 s11 s12 s13 s14 s15 s16 (⟨#[98,101,103,105,110,10]⟩:ByteArray)).bind fun bt1=>((Qt.f k bt1.1 bt1.2.1 bt1.2.2.1 bt1.2.2.2.1 bt1.2.2.2.2.1 bt1.2.2.2.2.2.1 bt1.2.2.2.2.2.2.1 bt1.2.2.2.2.2.2.2.1 bt1.2.2.2.2.2.2.2.2.1 bt1.2.2.2.2.2.2.2.2.2.1 bt1.2.2.2.2.2.2.2.2.2.2.1 bt1.2.2.2.2.2.2.2.2.2.2.2.1 bt1.2.2.2.2.2.2.2.2.2.2.2.2.1 bt1.2.2.2.2.2.2.2.2.2.2.2.2.2.1 bt1.2.2.2.2.2.2.2.2.2.2.2.2.2.2.1 bt1.2.2.2.2.2.2.2.2.2.2.2.2.2.2.2.1 bt1.2.2.2.2.2.2.2.2.2.2.2.2.2.2.2.2 [(⟨#[102,111,114,115,121,116,104,32]⟩:ByteArray),(⟨#[112,105,101,99,101,115,32]⟩:ByteArray)]).bind fun bt19=>(if bt19.1=0 then ((QT.f k bt19.2.1 bt19.2.2.1 bt19.2.2.2.1 bt19.2.2.2.2.1 bt19.2.2.2.2.2.1 bt19.2.2.2.2.2.2.1 bt19.2.2.2.2.2.2.2.1 bt19.2.2.2.2.2.2.2.2.1 bt19.2.2.2.2.2.2.2.2.2.1 bt19.2.2.2.2.2.2.2.2.2.2.1 bt19.2.2.2.2.2.2.2.2.2.2.2.1 bt19.2.2.2.2.2.2.2.2.2.2.2.2.1 bt19.2.2.2.2.2.2.2.2.2.2.2.2.2.1 bt19.2.2.2.2.2.2.2.2.2.2.2.2.2.2.1 bt19.2.2.2.2.2.2.2.2.2.2.2.2.2.2.2.1 bt19.2.2.2.2.2.2.2.2.2.2.2.2.2.2.2.2.1 bt19.2.2.2.2.2.2.2.2.2.2.2.2.2.2.2.2.2 48).bind fun bt37=>(some (bt37.1,bt37.2.1,bt37.2.2.1,bt37.2.2.2.1,bt37.2.2.2.2.1,bt37.2.2.2.2.2.1,bt37.2.2.2.2.2.2.1,bt37.2.2.2.2.2.2.2.1,bt37.2.2.2.2.2.2.2.2.1,bt37.2.2.2.2.2.2.2.2.2.1,bt37.2.2.2.2.2.2.2.2.2.2.1,bt37.2.2.2.2.2.2.2.2.2.2.2.1,bt37.2.2.2.2.2.2.2.2.2.2.2.2.1,bt37.2.2.2.2.2.2.2.2.2.2.2.2.2.1,bt37.2.2.2.2.2.2.2.2.2.2.2.2.2.2.1,bt37.2.2.2.2.2.2.2.2.2.2.2.2.2.2.2.1,bt37.2.2.2.2.2.2.2.2.2.2.2.2.2.2.2.2))) else ((QT.f k bt19.2.1 bt19.2.2.1 bt19.2.2.2.1 bt19.2.2.2.2.1 bt19.2.2.2.2.2.1 bt19.2.2.2.2.2.2.1 bt19.2.2.2.2.2.2.2.1 bt19.2.2.2.2.2.2.2.2.1 bt19.2.2.2.2.2.2.2.2.2.1 bt19.2.2.2.2.2.2.2.2.2.2.1 bt19.2.2.2.2.2.2.2.2.2.2.2.1 bt19.2.2.2.2.2.2.2.2.2.2.2.2.1 bt19.2.2.2.2.2.2.2.2.2.2.2.2.2.1 bt19.2.2.2.2.2.2.2.2.2.2.2.2.2.2.1 bt19.2.2.2.2.2.2.2.2.2.2.2.2.2.2.2.1 bt19.2.2.2.2.2.2.2.2.2.2.2.2.2.2.2.2.1 bt19.2.2.2.2.2.2.2.2.2.2.2.2.2.2.2.2.2 49).bind fun bt54=>(some (bt54.1,bt54.2.1,bt54.2.2.1,bt54.2.2.2.1,bt54.2.2.2.2.1,bt54.2.2.2.2.2.1,bt54.2.2.2.2.2.2.1,bt54.2.2.2.2.2.2.2.1,bt54.2.2.2.2.2.2.2.2.1,bt54.2.2.2.2.2.2.2.2.2.1,bt54.2.2.2.2.2.2.2.2.2.2.1,bt54.2.2.2.2.2.2.2.2.2.2.2.1,bt54.2.2.2.2.2.2.2.2.2.2.2.2.1,bt54.2.2.2.2.2.2.2.2.2.2.2.2.2.1,bt54.2.2.2.2.2.2.2.2.2.2.2.2.2.2.1,bt54.2.2.2.2.2.2.2.2.2.2.2.2.2.2.2.1,bt54.2.2.2.2.2.2.2.2.2.2.2.2.2.2.2.2))))))=some (q0,q1,q2,q3,q4,q5,q6,q7,q8,q9,q10,q11,q12,q13,q14,q15,q16):=h
 clear h
 replace H:=Ia H
 obtain ⟨⟨t1,t2,t3,t4,t5,t6,t7,t8,t9,t10,t11,t12,t13,t14,t15,t16,t17⟩,A71_,H⟩:=H
 dsimp only at H
 have A71:=hid A71_
 clear A71_
 have H':=hid H
 clear H
 go_enter Tryz.func18,Tryz.ntmps18
 have k73:=True.intro
 go_wp2_with (first
  |(go_at_call 39;clear k73;refine (Qk.c k s0 s1 s2 s3 s4 s5 s6 s7 s8 s9 s10 s11 s12 s13 s14 s15 s16 (⟨#[98,101,103,105,110,10]⟩:ByteArray) LN_s3.out t1 t2 t3 t4 t5 t6 t7 t8 t9 t10 t11 t12 t13 t14 t15 t16 t17 g _ BKr.out A71.out).mono ?_;rintro e_ w74 ⟨rfl,ln_t4,hB_,hx_⟩;have LN_t4:=hid ln_t4;clear ln_t4;replace HL:=hid (HL.out.bex hx_ HL.out.size (.inl rfl));replace BKr:=hid hB_;clear hx_ hB_)
  |((with_reducible refine Qa (N:=5) rfl ?_);obtain ⟨go18,hgo18⟩:∃ g_,w74.heap.size=g_:=⟨_,rfl⟩;refine XY (e:=9) 2 #[.string (⟨#[102,111,114,115,121,116,104,32]⟩:ByteArray),.string (⟨#[112,105,101,99,101,115,32]⟩:ByteArray)] go18 hgo18 rfl _ rfl (fun w_=>by (try simp only [List.map_toArray,List.map_cons,List.map_nil]);kernel_rfl) ?_;intro w75 hb_ hB_ hs_;have GEo18:Hid (w.heap.size≤go18):=hid (by have:=HL.out.size;omega);have NBr_o18:Hid (g≠go18):=hid (by have:=BKr.out.lt;omega);have NBo18_r:Hid (go18≠g):=hid (by have:=NBr_o18.out;omega);replace BKr:=hid (BKr.out.below hb_ (by rw [← hgo18];exact BKr.out.lt));replace HL:=hid (HL.out.below hb_ (GEo18.out));have BKo18:=hid hB_;clear hb_ hB_ hs_ hgo18;obtain ⟨uo18,hu_⟩:∃ u_,u_=(Value.slice (some ⟨go18,0,none⟩) 2 2):=⟨_,rfl⟩;have SWo18:Hid (Own w75 w.heap.size 9 (uo18) ([(⟨#[102,111,114,115,121,116,104,32]⟩:ByteArray),(⟨#[112,105,101,99,101,115,32]⟩:ByteArray)].map Value.string)):=hid (by rw [hu_];exact Own.lit GEo18.out BKo18.out rfl (by simp [maxLen]));rw [← hu_];clear hu_ BKo18))
 (try simp only [Act.put,sI,sZ,sS])
 have H:=H'.out
 clear H'
 replace H:=Ia H
 obtain ⟨⟨t19,t20,t21,t22,t23,t24,t25,t26,t27,t28,t29,t30,t31,t32,t33,t34,t35,t36⟩,A72_,H⟩:=H
 dsimp only at H
 have A72:=hid A72_
 clear A72_
 by_cases c76:t19=0
 ·
  rw [if_pos c76] at H
  have c76b0:(t19==0)=true:=beq_iff_eq.mpr c76
  have c76b1:(t19 != 0)=false:=bne_eq_false_iff_eq.mpr c76
  have hc76:=hid c76
  clear c76
  replace H:=Ia H
  obtain ⟨⟨t37,t38,t39,t40,t41,t42,t43,t44,t45,t46,t47,t48,t49,t50,t51,t52,t53⟩,A77_,H⟩:=H
  dsimp only at H
  have A77:=hid A77_
  clear A77_
  simp only [Option.some.injEq,Prod.mk.injEq] at H
  obtain ⟨rfl,rfl,rfl,rfl,rfl,rfl,rfl,rfl,rfl,rfl,rfl,rfl,rfl,rfl,rfl,rfl,rfl⟩:=H
  have k78:=True.intro
  have k80:=True.intro
  go_wp2_with (first
   |(go_at_call 37;clear k78;refine (Qt.c k t1 t2 t3 t4 t5 t6 t7 t8 t9 t10 t11 t12 t13 t14 t15 t16 t17 (uo18) [(⟨#[102,111,114,115,121,116,104,32]⟩:ByteArray),(⟨#[112,105,101,99,101,115,32]⟩:ByteArray)] LN_t4.out t19 t20 t21 t22 t23 t24 t25 t26 t27 t28 t29 t30 t31 t32 t33 t34 t35 t36 g _ BKr.out SWo18.out.slT A72.out).mono ?_;rintro e_ w79 ⟨rfl,ln_t23,hB_,hx_⟩;have LN_t23:=hid ln_t23;clear ln_t23;replace SWo18:=hid (SWo18.out.bex hx_ (Nat.le_refl _) BKr.out (by decide));replace HL:=hid (HL.out.bex hx_ HL.out.size (.inl rfl));replace BKr:=hid hB_;clear hx_ hB_)
   |(go_at_call 47;clear k80;refine (QT.c k t20 t21 t22 t23 t24 t25 t26 t27 t28 t29 t30 t31 t32 t33 t34 t35 t36 48 LN_t23.out t37 t38 t39 t40 t41 t42 t43 t44 t45 t46 t47 t48 t49 t50 t51 t52 t53 g _ BKr.out A77.out).mono ?_;rintro e_ w81 ⟨rfl,ln_t40,hB_,hx_⟩;have LN_t40:=hid ln_t40;clear ln_t40;replace SWo18:=hid (SWo18.out.bex hx_ (Nat.le_refl _) BKr.out (by decide));replace HL:=hid (HL.out.bex hx_ HL.out.size (.inl rfl));replace BKr:=hid hB_;clear hx_ hB_))
  (try simp only [Act.put,sI,sZ,sS])
  (first|go_end0|refine bodyPost_ret (results_none rfl _ _ _) rfl ?_)
  exact ⟨by first|rfl|(simp;done),LN_t40.out,(by exact BKr.out),HL.out⟩
 ·
  rw [if_neg c76] at H
  have c76b0:(t19==0)=false:=beq_eq_false_iff_ne.mpr c76
  have c76b1:(t19 != 0)=true:=bne_iff_ne.mpr c76
  have hc76:=hid c76
  clear c76
  replace H:=Ia H
  obtain ⟨⟨t54,t55,t56,t57,t58,t59,t60,t61,t62,t63,t64,t65,t66,t67,t68,t69,t70⟩,A82_,H⟩:=H
  dsimp only at H
  have A82:=hid A82_
  clear A82_
  simp only [Option.some.injEq,Prod.mk.injEq] at H
  obtain ⟨rfl,rfl,rfl,rfl,rfl,rfl,rfl,rfl,rfl,rfl,rfl,rfl,rfl,rfl,rfl,rfl,rfl⟩:=H
  have k83:=True.intro
  have k85:=True.intro
  go_wp2_with (first
   |(go_at_call 37;clear k83;refine (Qt.c k t1 t2 t3 t4 t5 t6 t7 t8 t9 t10 t11 t12 t13 t14 t15 t16 t17 (uo18) [(⟨#[102,111,114,115,121,116,104,32]⟩:ByteArray),(⟨#[112,105,101,99,101,115,32]⟩:ByteArray)] LN_t4.out t19 t20 t21 t22 t23 t24 t25 t26 t27 t28 t29 t30 t31 t32 t33 t34 t35 t36 g _ BKr.out SWo18.out.slT A72.out).mono ?_;rintro e_ w84 ⟨rfl,ln_t23,hB_,hx_⟩;have LN_t23:=hid ln_t23;clear ln_t23;replace SWo18:=hid (SWo18.out.bex hx_ (Nat.le_refl _) BKr.out (by decide));replace HL:=hid (HL.out.bex hx_ HL.out.size (.inl rfl));replace BKr:=hid hB_;clear hx_ hB_)
   |(go_at_call 47;clear k85;refine (QT.c k t20 t21 t22 t23 t24 t25 t26 t27 t28 t29 t30 t31 t32 t33 t34 t35 t36 49 LN_t23.out t54 t55 t56 t57 t58 t59 t60 t61 t62 t63 t64 t65 t66 t67 t68 t69 t70 g _ BKr.out A82.out).mono ?_;rintro e_ w86 ⟨rfl,ln_t57,hB_,hx_⟩;have LN_t57:=hid ln_t57;clear ln_t57;replace SWo18:=hid (SWo18.out.bex hx_ (Nat.le_refl _) BKr.out (by decide));replace HL:=hid (HL.out.bex hx_ HL.out.size (.inl rfl));replace BKr:=hid hB_;clear hx_ hB_))
  (try simp only [Act.put,sI,sZ,sS])
  (first|go_end0|refine bodyPost_ret (results_none rfl _ _ _) rfl ?_)
  exact ⟨by first|rfl|(simp;done),LN_t57.out,(by exact BKr.out),HL.out⟩
def JI.f(k:Nat)(s0:ByteArray)(s1 s2:Int)(s3:List Int)(s4 s5 s6 s7 s8 s9:Int)(s10 s11 s12:Bool)(s13 s14 s15:Int)(s16:Value):Option (ByteArray×Int×Int×(List Int)×Int×Int×Int×Int×Int×Int×Bool×Bool×Bool×Int×Int×Int×Value):=(Qk.f k s0 s1 s2 s3 s4 s5 s6 s7 s8 s9 s10 s11 s12 s13 s14 s15 s16 (⟨#[115,116,105,112,32]⟩:ByteArray)).bind fun bt1=>(if bt1.2.2.1=0 then ((Zh.f k bt1.1 bt1.2.1).bind fun bt18=>((Ql.f bt1.1 bt1.2.1 bt1.2.2.1 bt1.2.2.2.1 bt1.2.2.2.2.1 bt1.2.2.2.2.2.1 bt1.2.2.2.2.2.2.1 bt18.1 bt18.2.1 bt18.2.2.1 bt18.2.2.2.1 bt1.2.2.2.2.2.2.2.2.2.2.2.1 bt1.2.2.2.2.2.2.2.2.2.2.2.2.1 bt1.2.2.2.2.2.2.2.2.2.2.2.2.2.1 bt1.2.2.2.2.2.2.2.2.2.2.2.2.2.2.1 bt1.2.2.2.2.2.2.2.2.2.2.2.2.2.2.2.1 bt1.2.2.2.2.2.2.2.2.2.2.2.2.2.2.2.2 bt18.2.2.2.2.1 bt18.2.2.2.2.2.1 bt18.2.2.2.2.2.2).bind fun bt27=>((Qk.f k bt27.2.1 bt27.2.2.1 bt27.2.2.2.1 bt27.2.2.2.2.1 bt27.2.2.2.2.2.1 bt27.2.2.2.2.2.2.1 bt27.2.2.2.2.2.2.2.1 bt27.2.2.2.2.2.2.2.2.1 bt27.2.2.2.2.2.2.2.2.2.1 bt27.2.2.2.2.2.2.2.2.2.2.1 bt27.2.2.2.2.2.2.2.2.2.2.2.1 bt27.2.2.2.2.2.2.2.2.2.2.2.2.1 bt27.2.2.2.2.2.2.2.2.2.2.2.2.2.1 bt27.2.2.2.2.2.2.2.2.2.2.2.2.2.2.1 bt27.2.2.2.2.2.2.2.2.2.2.2.2.2.2.2.1 bt27.2.2.2.2.2.2.2.2.2.2.2.2.2.2.2.2.1 bt27.2.2.2.2.2.2.2.2.2.2.2.2.2.2.2.2.2 (⟨#[10]⟩:ByteArray)).bind fun bt45=>(some (bt45.1,bt45.2.1,bt45.2.2.1,bt45.2.2.2.1,bt45.2.2.2.2.1,bt45.2.2.2.2.2.1,bt45.2.2.2.2.2.2.1,bt45.2.2.2.2.2.2.2.1,bt45.2.2.2.2.2.2.2.2.1,bt45.2.2.2.2.2.2.2.2.2.1,bt45.2.2.2.2.2.2.2.2.2.2.1,bt45.2.2.2.2.2.2.2.2.2.2.2.1,bt45.2.2.2.2.2.2.2.2.2.2.2.2.1,bt45.2.2.2.2.2.2.2.2.2.2.2.2.2.1,bt45.2.2.2.2.2.2.2.2.2.2.2.2.2.2.1,bt45.2.2.2.2.2.2.2.2.2.2.2.2.2.2.2.1,bt45.2.2.2.2.2.2.2.2.2.2.2.2.2.2.2.2))))) else ((Qk.f k bt1.1 bt1.2.1 bt1.2.2.1 bt1.2.2.2.1 bt1.2.2.2.2.1 bt1.2.2.2.2.2.1 bt1.2.2.2.2.2.2.1 bt1.2.2.2.2.2.2.2.1 bt1.2.2.2.2.2.2.2.2.1 bt1.2.2.2.2.2.2.2.2.2.1 bt1.2.2.2.2.2.2.2.2.2.2.1 bt1.2.2.2.2.2.2.2.2.2.2.2.1 bt1.2.2.2.2.2.2.2.2.2.2.2.2.1 bt1.2.2.2.2.2.2.2.2.2.2.2.2.2.1 bt1.2.2.2.2.2.2.2.2.2.2.2.2.2.2.1 bt1.2.2.2.2.2.2.2.2.2.2.2.2.2.2.2.1 bt1.2.2.2.2.2.2.2.2.2.2.2.2.2.2.2.2 (⟨#[10]⟩:ByteArray)).bind fun bt62=>(some (bt62.1,bt62.2.1,bt62.2.2.1,bt62.2.2.2.1,bt62.2.2.2.2.1,bt62.2.2.2.2.2.1,bt62.2.2.2.2.2.2.1,bt62.2.2.2.2.2.2.2.1,bt62.2.2.2.2.2.2.2.2.1,bt62.2.2.2.2.2.2.2.2.2.1,bt62.2.2.2.2.2.2.2.2.2.2.1,bt62.2.2.2.2.2.2.2.2.2.2.2.1,bt62.2.2.2.2.2.2.2.2.2.2.2.2.1,bt62.2.2.2.2.2.2.2.2.2.2.2.2.2.1,bt62.2.2.2.2.2.2.2.2.2.2.2.2.2.2.1,bt62.2.2.2.2.2.2.2.2.2.2.2.2.2.2.2.1,bt62.2.2.2.2.2.2.2.2.2.2.2.2.2.2.2.2))))
theorem JI.c(k:Nat)(s0:ByteArray)(s1 s2:Int)(s3:List Int)(s4 s5 s6 s7 s8 s9:Int)(s10 s11 s12:Bool)(s13 s14 s15:Int)(s16:Value)(hls3:s3.length=64)(q0:ByteArray)(q1 q2:Int)(q3:List Int)(q4 q5 q6 q7 q8 q9:Int)(q10 q11 q12:Bool)(q13 q14 q15:Int)(q16:Value)(g:Nat)(w:World)(hB:Blk w g 54 (yv [.string s0,Ii s1,Ii s2] (Value.int .i8) s3 [Ii s4,Ii s5,Ii s6,Ii s7,Ii s8,Ii s9,.bool s10,.bool s11,.bool s12,Ii s13,Ii s14,Ii s15,s16]))(h:JI.f k s0 s1 s2 s3 s4 s5 s6 s7 s8 s9 s10 s11 s12 s13 s14 s15 s16=some (q0,q1,q2,q3,q4,q5,q6,q7,q8,q9,q10,q11,q12,q13,q14,q15,q16)):
 Calls Tryz.prog 19 #[Pg g 0] w fun e w'=>e=.returned (.tuple #[])∧q3.length=64∧Blk w' g 54 (yv [.string q0,Ii q1,Ii q2] (Value.int .i8) q3 [Ii q4,Ii q5,Ii q6,Ii q7,Ii q8,Ii q9,.bool q10,.bool q11,.bool q12,Ii q13,Ii q14,Ii q15,q16])∧Bex g w.heap.size w w':=by
 have LN_s3:=hid hls3
 clear hls3
 have BKr:=hid hB
 clear hB
 have HL:=hid (Bex.refl g w.heap.size w)
 have H:((Qk.f k s0 s1 s2 s3 s4 s5 s6 s7 s8 s9 s10 s11 s12 s13 s14 s15 s16 (⟨#[115,116,105,112,32]⟩:ByteArray)).bind fun bt1=>(if bt1.2.2.1=0 then ((Zh.f k bt1.1 bt1.2.1).bind fun bt18=>((Ql.f bt1.1 bt1.2.1 bt1.2.2.1 bt1.2.2.2.1 bt1.2.2.2.2.1 bt1.2.2.2.2.2.1 bt1.2.2.2.2.2.2.1 bt18.1 bt18.2.1 bt18.2.2.1 bt18.2.2.2.1 bt1.2.2.2.2.2.2.2.2.2.2.2.1 bt1.2.2.2.2.2.2.2.2.2.2.2.2.1 bt1.2.2.2.2.2.2.2.2.2.2.2.2.2.1 bt1.2.2.2.2.2.2.2.2.2.2.2.2.2.2.1 bt1.2.2.2.2.2.2.2.2.2.2.2.2.2.2.2.1 bt1.2.2.2.2.2.2.2.2.2.2.2.2.2.2.2.2 bt18.2.2.2.2.1 bt18.2.2.2.2.2.1 bt18.2.2.2.2.2.2).bind fun bt27=>((Qk.f k bt27.2.1 bt27.2.2.1 bt27.2.2.2.1 bt27.2.2.2.2.1 bt27.2.2.2.2.2.1 bt27.2.2.2.2.2.2.1 bt27.2.2.2.2.2.2.2.1 bt27.2.2.2.2.2.2.2.2.1 bt27.2.2.2.2.2.2.2.2.2.1 bt27.2.2.2.2.2.2.2.2.2.2.1 bt27.2.2.2.2.2.2.2.2.2.2.2.1 bt27.2.2.2.2.2.2.2.2.2.2.2.2.1 bt27.2.2.2.2.2.2.2.2.2.2.2.2.2.1 bt27.2.2.2.2.2.2.2.2.2.2.2.2.2.2.1 bt27.2.2.2.2.2.2.2.2.2.2.2.2.2.2.2.1 bt27.2.2.2.2.2.2.2.2.2.2.2.2.2.2.2.2.1 bt27.2.2.2.2.2.2.2.2.2.2.2.2.2.2.2.2.2 (⟨#[10]⟩:ByteArray)).bind fun bt45=>(some (bt45.1,bt45.2.1,bt45.2.2.1,bt45.2.2.2.1,bt45.2.2.2.2.1,bt45.2.2.2.2.2.1,bt45.2.2.2.2.2.2.1,bt45.2.2.2.2.2.2.2.1,bt45.2.2.2.2.2.2.2.2.1,bt45.2.2.2.2.2.2.2.2.2.1,bt45.2.2.2.2.2.2.2.2.2.2.1,bt45.2.2.2.2.2.2.2.2.2.2.2.1,bt45.2.2.2.2.2.2.2.2.2.2.2.2.1,bt45.2.2.2.2.2.2.2.2.2.2.2.2.2.1,bt45.2.2.2.2.2.2.2.2.2.2.2.2.2.2.1,bt45.2.2.2.2.2.2.2.2.2.2.2.2.2.2.2.1,bt45.2.2.2.2.2.2.2.2.2.2.2.2.2.2.2.2))))) else ((Qk.f k bt1.1 bt1.2.1 bt1.2.2.1 bt1.2.2.2.1 bt1.2.2.2.2.1 bt1.2.2.2.2.2.1 bt1.2.2.2.2.2.2.1 bt1.2.2.2.2.2.2.2.1 bt1.2.2.2.2.2.2.2.2.1 bt1.2.2.2.2.2.2.2.2.2.1 bt1.2.2.2.2.2.2.2.2.2.2.1 bt1.2.2.2.2.2.2.2.2.2.2.2.1 bt1.2.2.2.2.2.2.2.2.2.2.2.2.1 bt1.2.2.2.2.2.2.2.2.2.2.2.2.2.1 bt1.2.2.2.2.2.2.2.2.2.2.2.2.2.2.1 bt1.2.2.2.2.2.2.2.2.2.2.2.2.2.2.2.1 bt1.2.2.2.2.2.2.2.2.2.2.2.2.2.2.2.2 (⟨#[10]⟩:ByteArray)).bind fun bt62=>(some (bt62.1,bt62.2.1,bt62.2.2.1,bt62.2.2.2.1,bt62.2.2.2.2.1,bt62.2.2.2.2.2.1,bt62.2.2.2.2.2.2.1,bt62.2.2.2.2.2.2.2.1,bt62.2.2.2.2.2.2.2.2.1,bt62.2.2.2.2.2.2.2.2.2.1,bt62.2.2.2.2.2.2.2.2.2.2.1,bt62.2.2.2.2.2.2.2.2.2.2.2.1,bt62.2.2.2.2.2.2.2.2.2.2.2.2.1,bt62.2.2.2.2.2.2.2.2.2.2.2.2.2.1,bt62.2.2.2.2.2.2.2.2.2.2.2.2.2.2.1,bt62.2.2.2.2.2.2.2.2.2.2.2.2.2.2.2.1,bt62.2.2.2.2.2.2.2.2.2.2.2.2.2.2.2.2)))))=some (q0,q1,q2,q3,q4,q5,q6,q7,q8,q9,q10,q11,q12,q13,q14,q15,q16):=h
 clear h
 replace H:=Ia H
 obtain ⟨⟨t1,t2,t3,t4,t5,t6,t7,t8,t9,t10,t11,t12,t13,t14,t15,t16,t17⟩,A79_,H⟩:=H
 dsimp only at H
 have A79:=hid A79_
 clear A79_
 by_cases c80:t3=0
 ·
  rw [if_pos c80] at H
  have c80b0:(t3==0)=true:=beq_iff_eq.mpr c80
  have c80b1:(t3 != 0)=false:=bne_eq_false_iff_eq.mpr c80
  have hc80:=hid c80
  clear c80
  replace H:=Ia H
  obtain ⟨⟨t18,t19,t20,t21,t22,t23,t24⟩,A81_,H⟩:=H
  dsimp only at H
  have A81:=hid A81_
  clear A81_
  replace H:=Ia H
  obtain ⟨⟨t27,t28,t29,t30,t31,t32,t33,t34,t35,t36,t37,t38,t39,t40,t41,t42,t43,t44⟩,A82_,H⟩:=H
  dsimp only at H
  have A82:=hid A82_
  clear A82_
  replace H:=Ia H
  obtain ⟨⟨t45,t46,t47,t48,t49,t50,t51,t52,t53,t54,t55,t56,t57,t58,t59,t60,t61⟩,A83_,H⟩:=H
  dsimp only at H
  have A83:=hid A83_
  clear A83_
  simp only [Option.some.injEq,Prod.mk.injEq] at H
  obtain ⟨rfl,rfl,rfl,rfl,rfl,rfl,rfl,rfl,rfl,rfl,rfl,rfl,rfl,rfl,rfl,rfl,rfl⟩:=H
  go_enter Tryz.func19,Tryz.ntmps19
  have k84:=True.intro
  go_wp2_with (first
   |(go_at_call 39;clear k84;refine (Qk.c k s0 s1 s2 s3 s4 s5 s6 s7 s8 s9 s10 s11 s12 s13 s14 s15 s16 (⟨#[115,116,105,112,32]⟩:ByteArray) LN_s3.out t1 t2 t3 t4 t5 t6 t7 t8 t9 t10 t11 t12 t13 t14 t15 t16 t17 g _ BKr.out A79.out).mono ?_;rintro e_ w85 ⟨rfl,ln_t4,hB_,hx_⟩;have LN_t4:=hid ln_t4;clear ln_t4;replace HL:=hid (HL.out.bex hx_ HL.out.size (.inl rfl));replace BKr:=hid hB_;clear hx_ hB_)
   |((with_reducible refine Qa (N:=8) rfl ?_);refine Qb (Pg g 2) (Qc 54 2 (Pg g 0) (Pg g 2) (Jt g) _ rfl rfl) rfl ?_)
   |((with_reducible refine Qa (N:=9) rfl ?_);refine Qb (Ii t3) (Qd Zk g (2) (Ii t3) ((yv [.string t1,Ii t2,Ii t3] (Value.int .i8) t4 [Ii t5,Ii t6,Ii t7,Ii t8,Ii t9,Ii t10,.bool t11,.bool t12,.bool t13,Ii t14,Ii t15,Ii t16,t17])) BKr.out ((QC (a:=3) rfl 2 (by decide)).trans rfl) _ rfl rfl) rfl ?_))
  (try simp only [Act.put,sI,sZ,sS])
  have WR64:=Zs
  have WR32:=ZA
  have WR8:=Ko
  have WRU:=ZY
  apply Qcf (F:=fun gb25 gb26 z_=>(Bex g w.heap.size w z_)∧(Blk z_ g 54 (yv [.string t1,Ii t2,Ii t3] (Value.int .i8) t4 [Ii t5,Ii t6,Ii t7,Ii t8,Ii t9,Ii t10,.bool t11,.bool t12,.bool t13,Ii t14,Ii t15,Ii t16,t17]))∧(Blk z_ gb25 28 #[Ii t18,Ii t19,Ii t20,.bool t21])∧(Blk z_ gb26 75 #[Ii t22,Ii t23,Ii t24])∧(w.heap.size≤gb25)∧(g≠gb25)∧(gb25≠g)∧(gb26≠gb25)∧(w.heap.size≤gb26)∧(g≠gb26)∧(gb26≠g)∧(gb25≠gb26))
  ·
   refine qC (fun z_=>Bex g w.heap.size w z_∧Blk z_ g 54 (yv [.string t1,Ii t2,Ii t3] (Value.int .i8) t4 [Ii t5,Ii t6,Ii t7,Ii t8,Ii t9,Ii t10,.bool t11,.bool t12,.bool t13,Ii t14,Ii t15,Ii t16,t17])∧True) [8,14,15] (.pure 0 (.pure 1 (.pure 2 (.take 3 (.pure 4 (.pure 5 (.pure 6 (.take 7 (.f3 8 (.pure 9 (.pure 10 (.pure 11 (.f2 12 (.act 13 (.act 14 (.act 15 .nil))) 13 (.act 12 (.act 14 (.act 15 .nil))))))) 12 (.f2 8 (.pure 9 (.pure 10 (.pure 11 (.act 13 (.act 14 (.act 15 .nil)))))) 13 (.act 8 (.pure 9 (.pure 10 (.pure 11 (.act 14 (.act 15 .nil))))))) 13 (.f2 8 (.pure 9 (.pure 10 (.pure 11 (.act 12 (.act 14 (.act 15 .nil)))))) 12 (.act 8 (.pure 9 (.pure 10 (.pure 11 (.act 14 (.act 15 .nil)))))))))))))))) (by kernel_rfl) (by kernel_rfl) (by kernel_rfl) rfl ?_
   intro w86 hb_
   replace BKr:=hid (BKr.out.below hb_ BKr.out.lt)
   replace HL:=hid (HL.out.below hb_ HL.out.size)
   clear hb_
   refine QK (Pg g 0) rfl (fun z_=>Qo (.tmp 0) (.inl rfl) _ rfl) rfl rfl ?_
   intro t_ k_;simp only [sI,sZ,sS] at k_;subst k_
   refine QK (Pg g 0) rfl (fun z_=>by go_simp <;> (unfold wrap64;omega)) rfl rfl ?_
   intro t_ k_;simp only [sI,sZ,sS] at k_;subst k_
   refine QK (Pg g 0) rfl (fun z_=>Qc 54 0 (Pg g 0) (Pg g 0) (KF g) _ rfl rfl) rfl rfl ?_
   intro t_ k_;simp only [sI,sZ,sS] at k_;subst k_
   refine VP (.string t1) ⟨HL.out,BKr.out,trivial⟩ rfl (fun z_ hS_=>Qd sT9 g (0) (.string t1) ((yv [.string t1,Ii t2,Ii t3] (Value.int .i8) t4 [Ii t5,Ii t6,Ii t7,Ii t8,Ii t9,Ii t10,.bool t11,.bool t12,.bool t13,Ii t14,Ii t15,Ii t16,t17])) hS_.2.1 ((QC (a:=3) rfl 0 (by decide)).trans rfl) _ rfl rfl) rfl rfl ?_
   intro t_ k_;simp only [sI,sZ,sS] at k_;subst k_
   refine QK (Pg g 0) rfl (fun z_=>Qo (.tmp 0) (.inl rfl) _ rfl) rfl rfl ?_
   intro t_ k_;simp only [sI,sZ,sS] at k_;subst k_
   refine QK (Pg g 0) rfl (fun z_=>by go_simp <;> (unfold wrap64;omega)) rfl rfl ?_
   intro t_ k_;simp only [sI,sZ,sS] at k_;subst k_
   refine QK (Pg g 1) rfl (fun z_=>Qc 54 1 (Pg g 0) (Pg g 1) (JT g) _ rfl rfl) rfl rfl ?_
   intro t_ k_;simp only [sI,sZ,sS] at k_;subst k_
   refine VP (Ii t2) ⟨HL.out,BKr.out,trivial⟩ rfl (fun z_ hS_=>Qd sT3 g (1) (Ii t2) ((yv [.string t1,Ii t2,Ii t3] (Value.int .i8) t4 [Ii t5,Ii t6,Ii t7,Ii t8,Ii t9,Ii t10,.bool t11,.bool t12,.bool t13,Ii t14,Ii t15,Ii t16,t17])) hS_.2.1 ((QC (a:=3) rfl 1 (by decide)).trans rfl) _ rfl rfl) rfl rfl ?_
   intro t_ k_;simp only [sI,sZ,sS] at k_;subst k_
   refine QgD ?_ ?_ ?_
   ·
    refine JX rfl (fun Q'_ hQ_=>?_)
    refine Jr 50 #[.string t1,Ii t2] (by go_simp) rfl ((Zh.c k t1 t2 t18 t19 t20 t21 t22 t23 t24 _ A81.out).mono ?_)
    rintro e_ w88 ⟨rfl,hb_⟩
    replace BKr:=hid (BKr.out.below hb_ BKr.out.lt)
    replace HL:=hid (HL.out.below hb_ HL.out.size)
    clear hb_
    refine ⟨_,rfl,?_⟩
    refine hQ_ _ _ (fun h_=>absurd h_ (by decide)) ?_
    clear hQ_ Q'_
    simp only [Act.put,sI,sZ,sS]
    refine QK (.tuple #[.agg #[Ii t18,Ii t19,Ii t20,.bool t21],.agg #[Ii t22,Ii t23,Ii t24]]) rfl (fun z_=>Qo (.tmp 20) (.inl rfl) _ rfl) rfl rfl ?_
    intro t_ k_;simp only [sI,sZ,sS] at k_;subst k_
    refine QK (.agg #[Ii t18,Ii t19,Ii t20,.bool t21]) rfl (fun z_=>by go_simp <;> (unfold wrap64;omega)) rfl rfl ?_
    intro t_ k_;simp only [sI,sZ,sS] at k_;subst k_
    refine QK (.agg #[Ii t22,Ii t23,Ii t24]) rfl (fun z_=>by go_simp <;> (unfold wrap64;omega)) rfl rfl ?_
    intro t_ k_;simp only [sI,sZ,sS] at k_;subst k_
    refine xF ?_ ?_
    ·
     refine JX rfl (fun Q'_ hQ_=>?_)
     (with_reducible refine Qa (N:=2) rfl ?_)
     obtain ⟨gb25,hgb25⟩:∃ g_,w88.heap.size=g_:=⟨_,rfl⟩
     refine Qq Zp gb25 hgb25 rfl rfl ?_
     intro w89 hb_ hB_ hs_
     have GEb25:Hid (w.heap.size≤gb25):=hid (by have:=HL.out.size;omega)
     have NBr_b25:Hid (g≠gb25):=hid (by have:=BKr.out.lt;omega)
     have NBb25_r:Hid (gb25≠g):=hid (by have:=NBr_b25.out;omega)
     replace BKr:=hid (BKr.out.below hb_ (by rw [← hgb25];exact BKr.out.lt))
     replace HL:=hid (HL.out.below hb_ (GEb25.out))
     have BKb25:=hid hB_
     clear hb_ hB_ hs_ hgb25
     refine Qz ?_
     refine hQ_ _ _ (fun _=>⟨HL.out,BKr.out,trivial⟩) ?_
     clear hQ_ Q'_
     simp only [Act.put,sI,sZ,sS]
     refine Zg ?_
     refine JX rfl (fun Q'_ hQ_=>?_)
     (with_reducible refine Qa (N:=3) rfl ?_)
     obtain ⟨gb26,hgb26⟩:∃ g_,w89.heap.size=g_:=⟨_,rfl⟩
     refine Qq Qs gb26 hgb26 rfl rfl ?_
     intro w90 hb_ hB_ hs_
     have GEb26:Hid (w.heap.size≤gb26):=hid (by have:=HL.out.size;omega)
     have NBr_b26:Hid (g≠gb26):=hid (by have:=BKr.out.lt;omega)
     have NBb26_r:Hid (gb26≠g):=hid (by have:=NBr_b26.out;omega)
     replace BKr:=hid (BKr.out.below hb_ (by rw [← hgb26];exact BKr.out.lt))
     have NBb25_b26:Hid (gb25≠gb26):=hid (by have:=BKb25.out.lt;omega)
     have NBb26_b25:Hid (gb26≠gb25):=hid (by have:=NBb25_b26.out;omega)
     replace BKb25:=hid (BKb25.out.below hb_ (by rw [← hgb26];exact BKb25.out.lt))
     replace HL:=hid (HL.out.below hb_ (GEb26.out))
     have BKb26:=hid hB_
     clear hb_ hB_ hs_ hgb26
     refine Qz ?_
     refine hQ_ _ _ (fun _=>⟨HL.out,BKr.out,trivial⟩) ?_
     clear hQ_ Q'_
     simp only [Act.put,sI,sZ,sS]
     refine Zg ?_
     refine JX rfl (fun Q'_ hQ_=>?_)
     (with_reducible refine Qf (t:=28) (p:=2) rfl ?_)
     refine Qg Zp gb25 0 #[Ii 0,Ii 0,Ii 0,.bool false] #[Ii t18,Ii t19,Ii t20,.bool t21] #[Ii t18,Ii t19,Ii t20,.bool t21] BKb25.out rfl (by simp) (by intro v_ hv_;simp at hv_;rcases hv_ with rfl|rfl|rfl|rfl <;> first|rfl) rfl rfl _ _ rfl rfl rfl ?_
     intro w91 ho_ hB_
     replace BKr:=hid (BKr.out.off ho_ NBr_b25.out)
     replace BKb26:=hid (BKb26.out.off ho_ NBb26_b25.out)
     replace HL:=hid (HL.out.off ho_ (.inr GEb25.out))
     replace BKb25:=hid hB_
     clear ho_ hB_
     refine Qz ?_
     refine hQ_ _ _ (fun h_=>absurd h_ (by decide)) ?_
     clear hQ_ Q'_
     simp only [Act.put]
     refine Zg ?_
     refine JX rfl (fun Q'_ hQ_=>?_)
     (with_reducible refine Qf (t:=75) (p:=3) rfl ?_)
     refine Qg Qs gb26 0 #[Ii 0,Ii 0,Ii 0] #[Ii t22,Ii t23,Ii t24] #[Ii t22,Ii t23,Ii t24] BKb26.out rfl (by simp) (by intro v_ hv_;simp at hv_;rcases hv_ with rfl|rfl|rfl <;> first|rfl) rfl rfl _ _ rfl rfl rfl ?_
     intro w92 ho_ hB_
     replace BKr:=hid (BKr.out.off ho_ NBr_b26.out)
     replace BKb25:=hid (BKb25.out.off ho_ NBb25_b26.out)
     replace HL:=hid (HL.out.off ho_ (.inr GEb26.out))
     replace BKb26:=hid hB_
     clear ho_ hB_
     refine Qz ?_
     refine hQ_ _ _ (fun h_=>absurd h_ (by decide)) ?_
     clear hQ_ Q'_
     simp only [Act.put]
     exact KT ⟨rfl,gb25,gb26,rfl,HL.out,BKr.out,BKb25.out,BKb26.out,GEb25.out,NBr_b25.out,NBb25_r.out,NBb26_b25.out,GEb26.out,NBr_b26.out,NBb26_r.out,NBb25_b26.out⟩
    ·
     refine JX rfl (fun Q'_ hQ_=>?_)
     (with_reducible refine Qa (N:=3) rfl ?_)
     obtain ⟨gb26,hgb26⟩:∃ g_,w88.heap.size=g_:=⟨_,rfl⟩
     refine Qq Qs gb26 hgb26 rfl rfl ?_
     intro w93 hb_ hB_ hs_
     have GEb26:Hid (w.heap.size≤gb26):=hid (by have:=HL.out.size;omega)
     have NBr_b26:Hid (g≠gb26):=hid (by have:=BKr.out.lt;omega)
     have NBb26_r:Hid (gb26≠g):=hid (by have:=NBr_b26.out;omega)
     replace BKr:=hid (BKr.out.below hb_ (by rw [← hgb26];exact BKr.out.lt))
     replace HL:=hid (HL.out.below hb_ (GEb26.out))
     have BKb26:=hid hB_
     clear hb_ hB_ hs_ hgb26
     refine Qz ?_
     refine hQ_ _ _ (fun _=>⟨HL.out,BKr.out,trivial⟩) ?_
     clear hQ_ Q'_
     simp only [Act.put,sI,sZ,sS]
     refine Zg ?_
     refine JX rfl (fun Q'_ hQ_=>?_)
     (with_reducible refine Qa (N:=2) rfl ?_)
     obtain ⟨gb25,hgb25⟩:∃ g_,w93.heap.size=g_:=⟨_,rfl⟩
     refine Qq Zp gb25 hgb25 rfl rfl ?_
     intro w94 hb_ hB_ hs_
     have GEb25:Hid (w.heap.size≤gb25):=hid (by have:=HL.out.size;omega)
     have NBr_b25:Hid (g≠gb25):=hid (by have:=BKr.out.lt;omega)
     have NBb25_r:Hid (gb25≠g):=hid (by have:=NBr_b25.out;omega)
     replace BKr:=hid (BKr.out.below hb_ (by rw [← hgb25];exact BKr.out.lt))
     have NBb26_b25:Hid (gb26≠gb25):=hid (by have:=BKb26.out.lt;omega)
     have NBb25_b26:Hid (gb25≠gb26):=hid (by have:=NBb26_b25.out;omega)
     replace BKb26:=hid (BKb26.out.below hb_ (by rw [← hgb25];exact BKb26.out.lt))
     replace HL:=hid (HL.out.below hb_ (GEb25.out))
     have BKb25:=hid hB_
     clear hb_ hB_ hs_ hgb25
     refine Qz ?_
     refine hQ_ _ _ (fun _=>⟨HL.out,BKr.out,trivial⟩) ?_
     clear hQ_ Q'_
     simp only [Act.put,sI,sZ,sS]
     refine Zg ?_
     refine JX rfl (fun Q'_ hQ_=>?_)
     (with_reducible refine Qf (t:=28) (p:=2) rfl ?_)
     refine Qg Zp gb25 0 #[Ii 0,Ii 0,Ii 0,.bool false] #[Ii t18,Ii t19,Ii t20,.bool t21] #[Ii t18,Ii t19,Ii t20,.bool t21] BKb25.out rfl (by simp) (by intro v_ hv_;simp at hv_;rcases hv_ with rfl|rfl|rfl|rfl <;> first|rfl) rfl rfl _ _ rfl rfl rfl ?_
     intro w95 ho_ hB_
     replace BKr:=hid (BKr.out.off ho_ NBr_b25.out)
     replace BKb26:=hid (BKb26.out.off ho_ NBb26_b25.out)
     replace HL:=hid (HL.out.off ho_ (.inr GEb25.out))
     replace BKb25:=hid hB_
     clear ho_ hB_
     refine Qz ?_
     refine hQ_ _ _ (fun h_=>absurd h_ (by decide)) ?_
     clear hQ_ Q'_
     simp only [Act.put]
     refine Zg ?_
     refine JX rfl (fun Q'_ hQ_=>?_)
     (with_reducible refine Qf (t:=75) (p:=3) rfl ?_)
     refine Qg Qs gb26 0 #[Ii 0,Ii 0,Ii 0] #[Ii t22,Ii t23,Ii t24] #[Ii t22,Ii t23,Ii t24] BKb26.out rfl (by simp) (by intro v_ hv_;simp at hv_;rcases hv_ with rfl|rfl|rfl <;> first|rfl) rfl rfl _ _ rfl rfl rfl ?_
     intro w96 ho_ hB_
     replace BKr:=hid (BKr.out.off ho_ NBr_b26.out)
     replace BKb25:=hid (BKb25.out.off ho_ NBb25_b26.out)
     replace HL:=hid (HL.out.off ho_ (.inr GEb26.out))
     replace BKb26:=hid hB_
     clear ho_ hB_
     refine Qz ?_
     refine hQ_ _ _ (fun h_=>absurd h_ (by decide)) ?_
     clear hQ_ Q'_
     simp only [Act.put]
     exact KT ⟨rfl,gb25,gb26,rfl,HL.out,BKr.out,BKb25.out,BKb26.out,GEb25.out,NBr_b25.out,NBb25_r.out,NBb26_b25.out,GEb26.out,NBr_b26.out,NBb26_r.out,NBb25_b26.out⟩
   ·
    refine JX rfl (fun Q'_ hQ_=>?_)
    (with_reducible refine Qa (N:=2) rfl ?_)
    obtain ⟨gb25,hgb25⟩:∃ g_,w86.heap.size=g_:=⟨_,rfl⟩
    refine Qq Zp gb25 hgb25 rfl rfl ?_
    intro w97 hb_ hB_ hs_
    have GEb25:Hid (w.heap.size≤gb25):=hid (by have:=HL.out.size;omega)
    have NBr_b25:Hid (g≠gb25):=hid (by have:=BKr.out.lt;omega)
    have NBb25_r:Hid (gb25≠g):=hid (by have:=NBr_b25.out;omega)
    replace BKr:=hid (BKr.out.below hb_ (by rw [← hgb25];exact BKr.out.lt))
    replace HL:=hid (HL.out.below hb_ (GEb25.out))
    have BKb25:=hid hB_
    clear hb_ hB_ hs_ hgb25
    refine Qz ?_
    refine hQ_ _ _ (fun _=>⟨HL.out,BKr.out,trivial⟩) ?_
    clear hQ_ Q'_
    simp only [Act.put,sI,sZ,sS]
    refine xF ?_ ?_
    ·
     refine JX rfl (fun Q'_ hQ_=>?_)
     refine Jr 50 #[.string t1,Ii t2] (by go_simp) rfl ((Zh.c k t1 t2 t18 t19 t20 t21 t22 t23 t24 _ A81.out).mono ?_)
     rintro e_ w99 ⟨rfl,hb_⟩
     replace BKr:=hid (BKr.out.below hb_ BKr.out.lt)
     replace BKb25:=hid (BKb25.out.below hb_ BKb25.out.lt)
     replace HL:=hid (HL.out.below hb_ HL.out.size)
     clear hb_
     refine ⟨_,rfl,?_⟩
     refine hQ_ _ _ (fun h_=>absurd h_ (by decide)) ?_
     clear hQ_ Q'_
     simp only [Act.put,sI,sZ,sS]
     refine QK (.tuple #[.agg #[Ii t18,Ii t19,Ii t20,.bool t21],.agg #[Ii t22,Ii t23,Ii t24]]) rfl (fun z_=>Qo (.tmp 20) (.inl rfl) _ rfl) rfl rfl ?_
     intro t_ k_;simp only [sI,sZ,sS] at k_;subst k_
     refine QK (.agg #[Ii t18,Ii t19,Ii t20,.bool t21]) rfl (fun z_=>by go_simp <;> (unfold wrap64;omega)) rfl rfl ?_
     intro t_ k_;simp only [sI,sZ,sS] at k_;subst k_
     refine QK (.agg #[Ii t22,Ii t23,Ii t24]) rfl (fun z_=>by go_simp <;> (unfold wrap64;omega)) rfl rfl ?_
     intro t_ k_;simp only [sI,sZ,sS] at k_;subst k_
     refine Zg ?_
     refine JX rfl (fun Q'_ hQ_=>?_)
     (with_reducible refine Qa (N:=3) rfl ?_)
     obtain ⟨gb26,hgb26⟩:∃ g_,w99.heap.size=g_:=⟨_,rfl⟩
     refine Qq Qs gb26 hgb26 rfl rfl ?_
     intro w100 hb_ hB_ hs_
     have GEb26:Hid (w.heap.size≤gb26):=hid (by have:=HL.out.size;omega)
     have NBr_b26:Hid (g≠gb26):=hid (by have:=BKr.out.lt;omega)
     have NBb26_r:Hid (gb26≠g):=hid (by have:=NBr_b26.out;omega)
     replace BKr:=hid (BKr.out.below hb_ (by rw [← hgb26];exact BKr.out.lt))
     have NBb25_b26:Hid (gb25≠gb26):=hid (by have:=BKb25.out.lt;omega)
     have NBb26_b25:Hid (gb26≠gb25):=hid (by have:=NBb25_b26.out;omega)
     replace BKb25:=hid (BKb25.out.below hb_ (by rw [← hgb26];exact BKb25.out.lt))
     replace HL:=hid (HL.out.below hb_ (GEb26.out))
     have BKb26:=hid hB_
     clear hb_ hB_ hs_ hgb26
     refine Qz ?_
     refine hQ_ _ _ (fun _=>⟨HL.out,BKr.out,trivial⟩) ?_
     clear hQ_ Q'_
     simp only [Act.put,sI,sZ,sS]
     refine Zg ?_
     refine JX rfl (fun Q'_ hQ_=>?_)
     (with_reducible refine Qf (t:=28) (p:=2) rfl ?_)
     refine Qg Zp gb25 0 #[Ii 0,Ii 0,Ii 0,.bool false] #[Ii t18,Ii t19,Ii t20,.bool t21] #[Ii t18,Ii t19,Ii t20,.bool t21] BKb25.out rfl (by simp) (by intro v_ hv_;simp at hv_;rcases hv_ with rfl|rfl|rfl|rfl <;> first|rfl) rfl rfl _ _ rfl rfl rfl ?_
     intro w101 ho_ hB_
     replace BKr:=hid (BKr.out.off ho_ NBr_b25.out)
     replace BKb26:=hid (BKb26.out.off ho_ NBb26_b25.out)
     replace HL:=hid (HL.out.off ho_ (.inr GEb25.out))
     replace BKb25:=hid hB_
     clear ho_ hB_
     refine Qz ?_
     refine hQ_ _ _ (fun h_=>absurd h_ (by decide)) ?_
     clear hQ_ Q'_
     simp only [Act.put]
     refine Zg ?_
     refine JX rfl (fun Q'_ hQ_=>?_)
     (with_reducible refine Qf (t:=75) (p:=3) rfl ?_)
     refine Qg Qs gb26 0 #[Ii 0,Ii 0,Ii 0] #[Ii t22,Ii t23,Ii t24] #[Ii t22,Ii t23,Ii t24] BKb26.out rfl (by simp) (by intro v_ hv_;simp at hv_;rcases hv_ with rfl|rfl|rfl <;> first|rfl) rfl rfl _ _ rfl rfl rfl ?_
     intro w102 ho_ hB_
     replace BKr:=hid (BKr.out.off ho_ NBr_b26.out)
     replace BKb25:=hid (BKb25.out.off ho_ NBb25_b26.out)
     replace HL:=hid (HL.out.off ho_ (.inr GEb26.out))
     replace BKb26:=hid hB_
     clear ho_ hB_
     refine Qz ?_
     refine hQ_ _ _ (fun h_=>absurd h_ (by decide)) ?_
     clear hQ_ Q'_
     simp only [Act.put]
     exact KT ⟨rfl,gb25,gb26,rfl,HL.out,BKr.out,BKb25.out,BKb26.out,GEb25.out,NBr_b25.out,NBb25_r.out,NBb26_b25.out,GEb26.out,NBr_b26.out,NBb26_r.out,NBb25_b26.out⟩
    ·
     refine JX rfl (fun Q'_ hQ_=>?_)
     (with_reducible refine Qa (N:=3) rfl ?_)
     obtain ⟨gb26,hgb26⟩:∃ g_,w97.heap.size=g_:=⟨_,rfl⟩
     refine Qq Qs gb26 hgb26 rfl rfl ?_
     intro w103 hb_ hB_ hs_
     have GEb26:Hid (w.heap.size≤gb26):=hid (by have:=HL.out.size;omega)
     have NBr_b26:Hid (g≠gb26):=hid (by have:=BKr.out.lt;omega)
     have NBb26_r:Hid (gb26≠g):=hid (by have:=NBr_b26.out;omega)
     replace BKr:=hid (BKr.out.below hb_ (by rw [← hgb26];exact BKr.out.lt))
     have NBb25_b26:Hid (gb25≠gb26):=hid (by have:=BKb25.out.lt;omega)
     have NBb26_b25:Hid (gb26≠gb25):=hid (by have:=NBb25_b26.out;omega)
     replace BKb25:=hid (BKb25.out.below hb_ (by rw [← hgb26];exact BKb25.out.lt))
     replace HL:=hid (HL.out.below hb_ (GEb26.out))
     have BKb26:=hid hB_
     clear hb_ hB_ hs_ hgb26
     refine Qz ?_
     refine hQ_ _ _ (fun _=>⟨HL.out,BKr.out,trivial⟩) ?_
     clear hQ_ Q'_
     simp only [Act.put,sI,sZ,sS]
     refine Zg ?_
     refine JX rfl (fun Q'_ hQ_=>?_)
     refine Jr 50 #[.string t1,Ii t2] (by go_simp) rfl ((Zh.c k t1 t2 t18 t19 t20 t21 t22 t23 t24 _ A81.out).mono ?_)
     rintro e_ w105 ⟨rfl,hb_⟩
     replace BKr:=hid (BKr.out.below hb_ BKr.out.lt)
     replace BKb25:=hid (BKb25.out.below hb_ BKb25.out.lt)
     replace BKb26:=hid (BKb26.out.below hb_ BKb26.out.lt)
     replace HL:=hid (HL.out.below hb_ HL.out.size)
     clear hb_
     refine ⟨_,rfl,?_⟩
     refine hQ_ _ _ (fun h_=>absurd h_ (by decide)) ?_
     clear hQ_ Q'_
     simp only [Act.put,sI,sZ,sS]
     refine QK (.tuple #[.agg #[Ii t18,Ii t19,Ii t20,.bool t21],.agg #[Ii t22,Ii t23,Ii t24]]) rfl (fun z_=>Qo (.tmp 20) (.inl rfl) _ rfl) rfl rfl ?_
     intro t_ k_;simp only [sI,sZ,sS] at k_;subst k_
     refine QK (.agg #[Ii t18,Ii t19,Ii t20,.bool t21]) rfl (fun z_=>by go_simp <;> (unfold wrap64;omega)) rfl rfl ?_
     intro t_ k_;simp only [sI,sZ,sS] at k_;subst k_
     refine QK (.agg #[Ii t22,Ii t23,Ii t24]) rfl (fun z_=>by go_simp <;> (unfold wrap64;omega)) rfl rfl ?_
     intro t_ k_;simp only [sI,sZ,sS] at k_;subst k_
     refine Zg ?_
     refine JX rfl (fun Q'_ hQ_=>?_)
     (with_reducible refine Qf (t:=28) (p:=2) rfl ?_)
     refine Qg Zp gb25 0 #[Ii 0,Ii 0,Ii 0,.bool false] #[Ii t18,Ii t19,Ii t20,.bool t21] #[Ii t18,Ii t19,Ii t20,.bool t21] BKb25.out rfl (by simp) (by intro v_ hv_;simp at hv_;rcases hv_ with rfl|rfl|rfl|rfl <;> first|rfl) rfl rfl _ _ rfl rfl rfl ?_
     intro w106 ho_ hB_
     replace BKr:=hid (BKr.out.off ho_ NBr_b25.out)
     replace BKb26:=hid (BKb26.out.off ho_ NBb26_b25.out)
     replace HL:=hid (HL.out.off ho_ (.inr GEb25.out))
     replace BKb25:=hid hB_
     clear ho_ hB_
     refine Qz ?_
     refine hQ_ _ _ (fun h_=>absurd h_ (by decide)) ?_
     clear hQ_ Q'_
     simp only [Act.put]
     refine Zg ?_
     refine JX rfl (fun Q'_ hQ_=>?_)
     (with_reducible refine Qf (t:=75) (p:=3) rfl ?_)
     refine Qg Qs gb26 0 #[Ii 0,Ii 0,Ii 0] #[Ii t22,Ii t23,Ii t24] #[Ii t22,Ii t23,Ii t24] BKb26.out rfl (by simp) (by intro v_ hv_;simp at hv_;rcases hv_ with rfl|rfl|rfl <;> first|rfl) rfl rfl _ _ rfl rfl rfl ?_
     intro w107 ho_ hB_
     replace BKr:=hid (BKr.out.off ho_ NBr_b26.out)
     replace BKb25:=hid (BKb25.out.off ho_ NBb25_b26.out)
     replace HL:=hid (HL.out.off ho_ (.inr GEb26.out))
     replace BKb26:=hid hB_
     clear ho_ hB_
     refine Qz ?_
     refine hQ_ _ _ (fun h_=>absurd h_ (by decide)) ?_
     clear hQ_ Q'_
     simp only [Act.put]
     exact KT ⟨rfl,gb25,gb26,rfl,HL.out,BKr.out,BKb25.out,BKb26.out,GEb25.out,NBr_b25.out,NBb25_r.out,NBb26_b25.out,GEb26.out,NBr_b26.out,NBb26_r.out,NBb25_b26.out⟩
   ·
    refine JX rfl (fun Q'_ hQ_=>?_)
    (with_reducible refine Qa (N:=3) rfl ?_)
    obtain ⟨gb26,hgb26⟩:∃ g_,w86.heap.size=g_:=⟨_,rfl⟩
    refine Qq Qs gb26 hgb26 rfl rfl ?_
    intro w108 hb_ hB_ hs_
    have GEb26:Hid (w.heap.size≤gb26):=hid (by have:=HL.out.size;omega)
    have NBr_b26:Hid (g≠gb26):=hid (by have:=BKr.out.lt;omega)
    have NBb26_r:Hid (gb26≠g):=hid (by have:=NBr_b26.out;omega)
    replace BKr:=hid (BKr.out.below hb_ (by rw [← hgb26];exact BKr.out.lt))
    replace HL:=hid (HL.out.below hb_ (GEb26.out))
    have BKb26:=hid hB_
    clear hb_ hB_ hs_ hgb26
    refine Qz ?_
    refine hQ_ _ _ (fun _=>⟨HL.out,BKr.out,trivial⟩) ?_
    clear hQ_ Q'_
    simp only [Act.put,sI,sZ,sS]
    refine xF ?_ ?_
    ·
     refine JX rfl (fun Q'_ hQ_=>?_)
     refine Jr 50 #[.string t1,Ii t2] (by go_simp) rfl ((Zh.c k t1 t2 t18 t19 t20 t21 t22 t23 t24 _ A81.out).mono ?_)
     rintro e_ w110 ⟨rfl,hb_⟩
     replace BKr:=hid (BKr.out.below hb_ BKr.out.lt)
     replace BKb26:=hid (BKb26.out.below hb_ BKb26.out.lt)
     replace HL:=hid (HL.out.below hb_ HL.out.size)
     clear hb_
     refine ⟨_,rfl,?_⟩
     refine hQ_ _ _ (fun h_=>absurd h_ (by decide)) ?_
     clear hQ_ Q'_
     simp only [Act.put,sI,sZ,sS]
     refine QK (.tuple #[.agg #[Ii t18,Ii t19,Ii t20,.bool t21],.agg #[Ii t22,Ii t23,Ii t24]]) rfl (fun z_=>Qo (.tmp 20) (.inl rfl) _ rfl) rfl rfl ?_
     intro t_ k_;simp only [sI,sZ,sS] at k_;subst k_
     refine QK (.agg #[Ii t18,Ii t19,Ii t20,.bool t21]) rfl (fun z_=>by go_simp <;> (unfold wrap64;omega)) rfl rfl ?_
     intro t_ k_;simp only [sI,sZ,sS] at k_;subst k_
     refine QK (.agg #[Ii t22,Ii t23,Ii t24]) rfl (fun z_=>by go_simp <;> (unfold wrap64;omega)) rfl rfl ?_
     intro t_ k_;simp only [sI,sZ,sS] at k_;subst k_
     refine Zg ?_
     refine JX rfl (fun Q'_ hQ_=>?_)
     (with_reducible refine Qa (N:=2) rfl ?_)
     obtain ⟨gb25,hgb25⟩:∃ g_,w110.heap.size=g_:=⟨_,rfl⟩
     refine Qq Zp gb25 hgb25 rfl rfl ?_
     intro w111 hb_ hB_ hs_
     have GEb25:Hid (w.heap.size≤gb25):=hid (by have:=HL.out.size;omega)
     have NBr_b25:Hid (g≠gb25):=hid (by have:=BKr.out.lt;omega)
     have NBb25_r:Hid (gb25≠g):=hid (by have:=NBr_b25.out;omega)
     replace BKr:=hid (BKr.out.below hb_ (by rw [← hgb25];exact BKr.out.lt))
     have NBb26_b25:Hid (gb26≠gb25):=hid (by have:=BKb26.out.lt;omega)
     have NBb25_b26:Hid (gb25≠gb26):=hid (by have:=NBb26_b25.out;omega)
     replace BKb26:=hid (BKb26.out.below hb_ (by rw [← hgb25];exact BKb26.out.lt))
     replace HL:=hid (HL.out.below hb_ (GEb25.out))
     have BKb25:=hid hB_
     clear hb_ hB_ hs_ hgb25
     refine Qz ?_
     refine hQ_ _ _ (fun _=>⟨HL.out,BKr.out,trivial⟩) ?_
     clear hQ_ Q'_
     simp only [Act.put,sI,sZ,sS]
     refine Zg ?_
     refine JX rfl (fun Q'_ hQ_=>?_)
     (with_reducible refine Qf (t:=28) (p:=2) rfl ?_)
     refine Qg Zp gb25 0 #[Ii 0,Ii 0,Ii 0,.bool false] #[Ii t18,Ii t19,Ii t20,.bool t21] #[Ii t18,Ii t19,Ii t20,.bool t21] BKb25.out rfl (by simp) (by intro v_ hv_;simp at hv_;rcases hv_ with rfl|rfl|rfl|rfl <;> first|rfl) rfl rfl _ _ rfl rfl rfl ?_
     intro w112 ho_ hB_
     replace BKr:=hid (BKr.out.off ho_ NBr_b25.out)
     replace BKb26:=hid (BKb26.out.off ho_ NBb26_b25.out)
     replace HL:=hid (HL.out.off ho_ (.inr GEb25.out))
     replace BKb25:=hid hB_
     clear ho_ hB_
     refine Qz ?_
     refine hQ_ _ _ (fun h_=>absurd h_ (by decide)) ?_
     clear hQ_ Q'_
     simp only [Act.put]
     refine Zg ?_
     refine JX rfl (fun Q'_ hQ_=>?_)
     (with_reducible refine Qf (t:=75) (p:=3) rfl ?_)
     refine Qg Qs gb26 0 #[Ii 0,Ii 0,Ii 0] #[Ii t22,Ii t23,Ii t24] #[Ii t22,Ii t23,Ii t24] BKb26.out rfl (by simp) (by intro v_ hv_;simp at hv_;rcases hv_ with rfl|rfl|rfl <;> first|rfl) rfl rfl _ _ rfl rfl rfl ?_
     intro w113 ho_ hB_
     replace BKr:=hid (BKr.out.off ho_ NBr_b26.out)
     replace BKb25:=hid (BKb25.out.off ho_ NBb25_b26.out)
     replace HL:=hid (HL.out.off ho_ (.inr GEb26.out))
     replace BKb26:=hid hB_
     clear ho_ hB_
     refine Qz ?_
     refine hQ_ _ _ (fun h_=>absurd h_ (by decide)) ?_
     clear hQ_ Q'_
     simp only [Act.put]
     exact KT ⟨rfl,gb25,gb26,rfl,HL.out,BKr.out,BKb25.out,BKb26.out,GEb25.out,NBr_b25.out,NBb25_r.out,NBb26_b25.out,GEb26.out,NBr_b26.out,NBb26_r.out,NBb25_b26.out⟩
    ·
     refine JX rfl (fun Q'_ hQ_=>?_)
     (with_reducible refine Qa (N:=2) rfl ?_)
     obtain ⟨gb25,hgb25⟩:∃ g_,w108.heap.size=g_:=⟨_,rfl⟩
     refine Qq Zp gb25 hgb25 rfl rfl ?_
     intro w114 hb_ hB_ hs_
     have GEb25:Hid (w.heap.size≤gb25):=hid (by have:=HL.out.size;omega)
     have NBr_b25:Hid (g≠gb25):=hid (by have:=BKr.out.lt;omega)
     have NBb25_r:Hid (gb25≠g):=hid (by have:=NBr_b25.out;omega)
     replace BKr:=hid (BKr.out.below hb_ (by rw [← hgb25];exact BKr.out.lt))
     have NBb26_b25:Hid (gb26≠gb25):=hid (by have:=BKb26.out.lt;omega)
     have NBb25_b26:Hid (gb25≠gb26):=hid (by have:=NBb26_b25.out;omega)
     replace BKb26:=hid (BKb26.out.below hb_ (by rw [← hgb25];exact BKb26.out.lt))
     replace HL:=hid (HL.out.below hb_ (GEb25.out))
     have BKb25:=hid hB_
     clear hb_ hB_ hs_ hgb25
     refine Qz ?_
     refine hQ_ _ _ (fun _=>⟨HL.out,BKr.out,trivial⟩) ?_
     clear hQ_ Q'_
     simp only [Act.put,sI,sZ,sS]
     refine Zg ?_
     refine JX rfl (fun Q'_ hQ_=>?_)
     refine Jr 50 #[.string t1,Ii t2] (by go_simp) rfl ((Zh.c k t1 t2 t18 t19 t20 t21 t22 t23 t24 _ A81.out).mono ?_)
     rintro e_ w116 ⟨rfl,hb_⟩
     replace BKr:=hid (BKr.out.below hb_ BKr.out.lt)
     replace BKb26:=hid (BKb26.out.below hb_ BKb26.out.lt)
     replace BKb25:=hid (BKb25.out.below hb_ BKb25.out.lt)
     replace HL:=hid (HL.out.below hb_ HL.out.size)
     clear hb_
     refine ⟨_,rfl,?_⟩
     refine hQ_ _ _ (fun h_=>absurd h_ (by decide)) ?_
     clear hQ_ Q'_
     simp only [Act.put,sI,sZ,sS]
     refine QK (.tuple #[.agg #[Ii t18,Ii t19,Ii t20,.bool t21],.agg #[Ii t22,Ii t23,Ii t24]]) rfl (fun z_=>Qo (.tmp 20) (.inl rfl) _ rfl) rfl rfl ?_
     intro t_ k_;simp only [sI,sZ,sS] at k_;subst k_
     refine QK (.agg #[Ii t18,Ii t19,Ii t20,.bool t21]) rfl (fun z_=>by go_simp <;> (unfold wrap64;omega)) rfl rfl ?_
     intro t_ k_;simp only [sI,sZ,sS] at k_;subst k_
     refine QK (.agg #[Ii t22,Ii t23,Ii t24]) rfl (fun z_=>by go_simp <;> (unfold wrap64;omega)) rfl rfl ?_
     intro t_ k_;simp only [sI,sZ,sS] at k_;subst k_
     refine Zg ?_
     refine JX rfl (fun Q'_ hQ_=>?_)
     (with_reducible refine Qf (t:=28) (p:=2) rfl ?_)
     refine Qg Zp gb25 0 #[Ii 0,Ii 0,Ii 0,.bool false] #[Ii t18,Ii t19,Ii t20,.bool t21] #[Ii t18,Ii t19,Ii t20,.bool t21] BKb25.out rfl (by simp) (by intro v_ hv_;simp at hv_;rcases hv_ with rfl|rfl|rfl|rfl <;> first|rfl) rfl rfl _ _ rfl rfl rfl ?_
     intro w117 ho_ hB_
     replace BKr:=hid (BKr.out.off ho_ NBr_b25.out)
     replace BKb26:=hid (BKb26.out.off ho_ NBb26_b25.out)
     replace HL:=hid (HL.out.off ho_ (.inr GEb25.out))
     replace BKb25:=hid hB_
     clear ho_ hB_
     refine Qz ?_
     refine hQ_ _ _ (fun h_=>absurd h_ (by decide)) ?_
     clear hQ_ Q'_
     simp only [Act.put]
     refine Zg ?_
     refine JX rfl (fun Q'_ hQ_=>?_)
     (with_reducible refine Qf (t:=75) (p:=3) rfl ?_)
     refine Qg Qs gb26 0 #[Ii 0,Ii 0,Ii 0] #[Ii t22,Ii t23,Ii t24] #[Ii t22,Ii t23,Ii t24] BKb26.out rfl (by simp) (by intro v_ hv_;simp at hv_;rcases hv_ with rfl|rfl|rfl <;> first|rfl) rfl rfl _ _ rfl rfl rfl ?_
     intro w118 ho_ hB_
     replace BKr:=hid (BKr.out.off ho_ NBr_b26.out)
     replace BKb25:=hid (BKb25.out.off ho_ NBb25_b26.out)
     replace HL:=hid (HL.out.off ho_ (.inr GEb26.out))
     replace BKb26:=hid hB_
     clear ho_ hB_
     refine Qz ?_
     refine hQ_ _ _ (fun h_=>absurd h_ (by decide)) ?_
     clear hQ_ Q'_
     simp only [Act.put]
     exact KT ⟨rfl,gb25,gb26,rfl,HL.out,BKr.out,BKb25.out,BKb26.out,GEb25.out,NBr_b25.out,NBb25_r.out,NBb26_b25.out,GEb26.out,NBr_b26.out,NBb26_r.out,NBb25_b26.out⟩
  rintro gb25 gb26 w119 ⟨HL_,BKr_,BKb25_,BKb26_,GEb25_,NBr_b25_,NBb25_r_,NBb26_b25_,GEb26_,NBr_b26_,NBb26_r_,NBb25_b26_⟩
  clear HL BKr
  have HL:=hid HL_
  clear HL_
  have BKr:=hid BKr_
  clear BKr_
  have BKb25:=hid BKb25_
  clear BKb25_
  have BKb26:=hid BKb26_
  clear BKb26_
  have GEb25:=hid GEb25_
  clear GEb25_
  have NBr_b25:=hid NBr_b25_
  clear NBr_b25_
  have NBb25_r:=hid NBb25_r_
  clear NBb25_r_
  have NBb26_b25:=hid NBb26_b25_
  clear NBb26_b25_
  have GEb26:=hid GEb26_
  clear GEb26_
  have NBr_b26:=hid NBr_b26_
  clear NBr_b26_
  have NBb26_r:=hid NBb26_r_
  clear NBb26_r_
  have NBb25_b26:=hid NBb25_b26_
  clear NBb25_b26_
  have k121:=True.intro
  have k123:=True.intro
  go_wp2_with (first
   |((with_reducible refine Qa (N:=24) rfl ?_);refine Qb (.agg #[Ii t18,Ii t19,Ii t20,.bool t21]) (QI Zp gb25 0 #[Ii t18,Ii t19,Ii t20,.bool t21] #[Ii t18,Ii t19,Ii t20,.bool t21] BKb25.out (by simp) rfl _ rfl rfl) rfl ?_)
   |((with_reducible refine Qa (N:=26) rfl ?_);refine Qb (Pg g 3) (Qc 54 3 (Pg g 0) (Pg g 3) (Xl g) _ rfl rfl) rfl ?_)
   |((with_reducible refine Qa (N:=27) rfl ?_);refine Qb (Pg g 70) (Qc 30 1 (Pg g 3) (Pg g 70) (Qcv g) _ rfl rfl) rfl ?_)
   |((with_reducible refine Qf (t:=28) (p:=27) rfl ?_);refine Qg Zp g 70 (yv [.string t1,Ii t2,Ii t3] (Value.int .i8) t4 [Ii t5,Ii t6,Ii t7,Ii t8,Ii t9,Ii t10,.bool t11,.bool t12,.bool t13,Ii t14,Ii t15,Ii t16,t17]) #[Ii t18,Ii t19,Ii t20,.bool t21] (yv [.string t1,Ii t2,Ii t3] (Value.int .i8) t4 [Ii t5,Ii t6,Ii t7,Ii t18,Ii t19,Ii t20,.bool t21,.bool t12,.bool t13,Ii t14,Ii t15,Ii t16,t17]) BKr.out rfl (zh (a:=3) (n:=64) (c:=13) rfl LN_t4.out rfl (m:=74) (by decide)) (by intro v_ hv_;simp at hv_;rcases hv_ with rfl|rfl|rfl|rfl <;> first|rfl) (Qed (a:=3) (n:=64) rfl LN_t4.out _ 3 70 (by decide) (by simp) rfl) rfl _ _ rfl rfl rfl ?_;intro w120 ho_ hB_;replace BKb26:=hid (BKb26.out.off ho_ NBb26_r.out);replace BKb25:=hid (BKb25.out.off ho_ NBb25_r.out);replace HL:=hid (HL.out.off ho_ (.inl rfl));replace BKr:=hid hB_;clear ho_ hB_)
   |((with_reducible refine Qa (N:=29) rfl ?_);refine Qb (.agg #[Ii t22,Ii t23,Ii t24]) (QI Qs gb26 0 #[Ii t22,Ii t23,Ii t24] #[Ii t22,Ii t23,Ii t24] BKb26.out (by simp) rfl _ rfl rfl) rfl ?_)
   |(go_at_call 44;clear k121;refine (Ql.c t1 t2 t3 t4 t5 t6 t7 t18 t19 t20 t21 t12 t13 t14 t15 t16 t17 t22 t23 t24 LN_t4.out t27 t28 t29 t30 t31 t32 t33 t34 t35 t36 t37 t38 t39 t40 t41 t42 t43 t44 g _ BKr.out A82.out).mono ?_;rintro e_ w122 ⟨rfl,ln_t31,hB_,hx_⟩;have LN_t31:=hid ln_t31;clear ln_t31;replace BKb26:=hid (BKb26.out.bex hx_ BKb26.out.lt NBb26_r.out);replace BKb25:=hid (BKb25.out.bex hx_ BKb25.out.lt NBb25_r.out);replace HL:=hid (HL.out.bex hx_ HL.out.size (.inl rfl));replace BKr:=hid hB_;clear hx_ hB_)
   |(go_at_call 39;clear k123;refine (Qk.c k t28 t29 t30 t31 t32 t33 t34 t35 t36 t37 t38 t39 t40 t41 t42 t43 t44 (⟨#[10]⟩:ByteArray) LN_t31.out t45 t46 t47 t48 t49 t50 t51 t52 t53 t54 t55 t56 t57 t58 t59 t60 t61 g _ BKr.out A83.out).mono ?_;rintro e_ w124 ⟨rfl,ln_t48,hB_,hx_⟩;have LN_t48:=hid ln_t48;clear ln_t48;replace BKb26:=hid (BKb26.out.bex hx_ BKb26.out.lt NBb26_r.out);replace BKb25:=hid (BKb25.out.bex hx_ BKb25.out.lt NBb25_r.out);replace HL:=hid (HL.out.bex hx_ HL.out.size (.inl rfl));replace BKr:=hid hB_;clear hx_ hB_))
  (try simp only [Act.put,sI,sZ,sS])
  (first|go_end0|refine bodyPost_ret (results_none rfl _ _ _) rfl ?_)
  exact ⟨by first|rfl|(simp;done),LN_t48.out,(by exact BKr.out),HL.out⟩
 ·
  rw [if_neg c80] at H
  have c80b0:(t3==0)=false:=beq_eq_false_iff_ne.mpr c80
  have c80b1:(t3 != 0)=true:=bne_iff_ne.mpr c80
  have hc80:=hid c80
  clear c80
  replace H:=Ia H
  obtain ⟨⟨t62,t63,t64,t65,t66,t67,t68,t69,t70,t71,t72,t73,t74,t75,t76,t77,t78⟩,A125_,H⟩:=H
  dsimp only at H
  have A125:=hid A125_
  clear A125_
  simp only [Option.some.injEq,Prod.mk.injEq] at H
  obtain ⟨rfl,rfl,rfl,rfl,rfl,rfl,rfl,rfl,rfl,rfl,rfl,rfl,rfl,rfl,rfl,rfl,rfl⟩:=H
  go_enter Tryz.func19,Tryz.ntmps19
  have k126:=True.intro
  have k128:=True.intro
  go_wp2_with (first
   |(go_at_call 39;clear k126;refine (Qk.c k s0 s1 s2 s3 s4 s5 s6 s7 s8 s9 s10 s11 s12 s13 s14 s15 s16 (⟨#[115,116,105,112,32]⟩:ByteArray) LN_s3.out t1 t2 t3 t4 t5 t6 t7 t8 t9 t10 t11 t12 t13 t14 t15 t16 t17 g _ BKr.out A79.out).mono ?_;rintro e_ w127 ⟨rfl,ln_t4,hB_,hx_⟩;have LN_t4:=hid ln_t4;clear ln_t4;replace HL:=hid (HL.out.bex hx_ HL.out.size (.inl rfl));replace BKr:=hid hB_;clear hx_ hB_)
   |((with_reducible refine Qa (N:=8) rfl ?_);refine Qb (Pg g 2) (Qc 54 2 (Pg g 0) (Pg g 2) (Jt g) _ rfl rfl) rfl ?_)
   |((with_reducible refine Qa (N:=9) rfl ?_);refine Qb (Ii t3) (Qd Zk g (2) (Ii t3) ((yv [.string t1,Ii t2,Ii t3] (Value.int .i8) t4 [Ii t5,Ii t6,Ii t7,Ii t8,Ii t9,Ii t10,.bool t11,.bool t12,.bool t13,Ii t14,Ii t15,Ii t16,t17])) BKr.out ((QC (a:=3) rfl 2 (by decide)).trans rfl) _ rfl rfl) rfl ?_)
   |(go_at_call 39;clear k128;refine (Qk.c k t1 t2 t3 t4 t5 t6 t7 t8 t9 t10 t11 t12 t13 t14 t15 t16 t17 (⟨#[10]⟩:ByteArray) LN_t4.out t62 t63 t64 t65 t66 t67 t68 t69 t70 t71 t72 t73 t74 t75 t76 t77 t78 g _ BKr.out A125.out).mono ?_;rintro e_ w129 ⟨rfl,ln_t65,hB_,hx_⟩;have LN_t65:=hid ln_t65;clear ln_t65;replace HL:=hid (HL.out.bex hx_ HL.out.size (.inl rfl));replace BKr:=hid hB_;clear hx_ hB_))
  (try simp only [Act.put,sI,sZ,sS])
  (first|go_end0|refine bodyPost_ret (results_none rfl _ _ _) rfl ?_)
  exact ⟨by first|rfl|(simp;done),LN_t65.out,(by exact BKr.out),HL.out⟩
end Go.Proofs.YtaipghemddjecaaGreatDoor
