import Derived.Test.YtaipghemddjecaaGreatDoorMiy
import Derived.Test.YtaipghemddjecaaGreatDoorProg
import Derived.Test.YtaipghemddjecaaGreatDoorL5wy
import Derived.Test.YtaipghemddjecaaGreatDoorMny
namespace Go.Proofs.YtaipghemddjecaaGreatDoor
set_option maxHeartbeats 40000000
set_option maxRecDepth 100000
open Go.RowKit
set_option linter.unusedVariables false
set_option linter.unusedSimpArgs false
theorem ZM(g:Nat)(w:World):(Instr.fieldAt 103 (Pg g 0) 2).run Tryz.prog w=.ok (Pg g 65) w:=by kernel_rfl
theorem Ki(g:Nat)(w:World):(Instr.fieldAt 103 (Pg g 0) 1).run Tryz.prog w=.ok (Pg g 64) w:=by kernel_rfl
theorem jU(g:Nat)(w:World):(Instr.fieldAt 103 (Pg g 0) 0).run Tryz.prog w=.ok (Pg g 0) w:=by kernel_rfl
theorem qX:Tryz.prog.underlying 24=some (.array 64 22):=by kernel_rfl
theorem KQ:ScT Tryz.prog 22:=⟨fun w=>by kernel_rfl,fun w=>by kernel_rfl⟩
def Qp.f(s0:List Int)(s1 s2:Int):Option (Bool):=some (s2==8)
theorem Qp.c(s0:List Int)(s1 s2:Int)(hls0:s0.length=64)(r1:Bool)(g:Nat)(w:World)(hB:Blk w g 103 (xv (Value.int .i8) s0 [Ii s1,Ii s2]))(h:Qp.f s0 s1 s2=some r1):
 Calls Tryz.prog 88 #[Pg g 0] w fun e w'=>e=.returned (.bool r1)∧w=w':=by
 have LN_s0:=hid hls0
 clear hls0
 have BKr:=hid hB
 clear hB
 have H:(some (s2==8))=some r1:=h
 clear h
 obtain rfl:=Option.some.inj H
 clear H
 go_enter Tryz.func88,Tryz.ntmps88
 go_wp2_with (first
  |((with_reducible refine Qa (N:=5) rfl ?_);refine Qb (Pg g 65) (Qc 103 2 (Pg g 0) (Pg g 65) (ZM g) _ rfl rfl) rfl ?_)
  |((with_reducible refine Qa (N:=6) rfl ?_);refine Qb (Ii s2) (Qd sT3 g (65) (Ii s2) ((xv (Value.int .i8) s0 [Ii s1,Ii s2])) BKr.out ((Qi (n:=64) LN_s0.out 1 65 (by omega)).trans rfl) _ rfl rfl) rfl ?_))
 (try simp only [Act.put,sI,sZ,sS])
 go_ret
 exact ⟨by first|rfl|(simp;done)|(simp [*];done),rfl⟩
def QQ.f(s0:List Int)(s1 s2:Int):Option (Bool):=(Qp.f s0 s1 s2).bind fun t1=>(if t1=true then (some (s1==7)) else (some false))
theorem QQ.c(s0:List Int)(s1 s2:Int)(hls0:s0.length=64)(r1:Bool)(g:Nat)(w:World)(hB:Blk w g 103 (xv (Value.int .i8) s0 [Ii s1,Ii s2]))(h:QQ.f s0 s1 s2=some r1):
 Calls Tryz.prog 71 #[Pg g 0] w fun e w'=>e=.returned (.bool r1)∧w=w':=by
 have LN_s0:=hid hls0
 clear hls0
 have BKr:=hid hB
 clear hB
 have H:((Qp.f s0 s1 s2).bind fun t1=>(if t1=true then (some (s1==7)) else (some false)))=some r1:=h
 clear h
 replace H:=Ia H
 obtain ⟨t1,A2_,H⟩:=H
 have A2:=hid A2_
 clear A2_
 cases t1 with
 |true=>
  rw [if_pos rfl] at H
  obtain rfl:=Option.some.inj H
  clear H
  go_enter Tryz.func71,Tryz.ntmps71
  have k4:=True.intro
  go_wp2_with (first
   |(go_at_call 88;clear k4;refine (Qp.c s0 s1 s2 LN_s0.out true g _ BKr.out A2.out).mono ?_;rintro e_ w' ⟨rfl,rfl⟩)
   |((with_reducible refine Qa (N:=8) rfl ?_);refine Qb (Pg g 64) (Qc 103 1 (Pg g 0) (Pg g 64) (Ki g) _ rfl rfl) rfl ?_)
   |((with_reducible refine Qa (N:=9) rfl ?_);refine Qb (Ii s1) (Qd sT3 g (64) (Ii s1) ((xv (Value.int .i8) s0 [Ii s1,Ii s2])) BKr.out ((Qi (n:=64) LN_s0.out 0 64 (by omega)).trans rfl) _ rfl rfl) rfl ?_))
  (try simp only [Act.put,sI,sZ,sS])
  go_ret
  exact ⟨by first|rfl|(simp;done)|(simp [*];done),rfl⟩
 |false=>
  rw [if_neg (show ¬ (false=true) by decide)] at H
  obtain rfl:=Option.some.inj H
  clear H
  go_enter Tryz.func71,Tryz.ntmps71
  have k5:=True.intro
  go_wp2_with (first
   |(go_at_call 88;clear k5;refine (Qp.c s0 s1 s2 LN_s0.out false g _ BKr.out A2.out).mono ?_;rintro e_ w' ⟨rfl,rfl⟩))
  (try simp only [Act.put,sI,sZ,sS])
  go_ret
  exact ⟨by first|rfl|(simp;done)|(simp [*];done),rfl⟩
def JF.f(s0:List Int)(s1 s2 a1:Int):Option (Bool×(List Int)×Int×Int):=some (decide ((wrap64 (s2+a1))≤8),s0,s1,wrap64 (s2+a1))
theorem JF.c(s0:List Int)(s1 s2 a1:Int)(hls0:s0.length=64)(r1:Bool)(q0:List Int)(q1 q2:Int)(g:Nat)(w:World)(hB:Blk w g 103 (xv (Value.int .i8) s0 [Ii s1,Ii s2]))(h:JF.f s0 s1 s2 a1=some (r1,q0,q1,q2)):
 Calls Tryz.prog 89 #[Pg g 0,Ii a1] w fun e w'=>e=.returned (.bool r1)∧q0.length=64∧Blk w' g 103 (xv (Value.int .i8) q0 [Ii q1,Ii q2])∧Bex g w.heap.size w w':=by
 have LN_s0:=hid hls0
 clear hls0
 have BKr:=hid hB
 clear hB
 have HL:=hid (Bex.refl g w.heap.size w)
 have H:(some (decide ((wrap64 (s2+a1))≤8),s0,s1,wrap64 (s2+a1)))=some (r1,q0,q1,q2):=h
 clear h
 simp only [Option.some.injEq,Prod.mk.injEq] at H
 obtain ⟨rfl,rfl,rfl,rfl⟩:=H
 go_enter Tryz.func89,Tryz.ntmps89
 go_wp2_with (first
  |((with_reducible refine Qa (N:=7) rfl ?_);refine Qb (Pg g 65) (Qc 103 2 (Pg g 0) (Pg g 65) (ZM g) _ rfl rfl) rfl ?_)
  |((with_reducible refine Qa (N:=8) rfl ?_);refine Qb (Ii s2) (Qd sT3 g (65) (Ii s2) ((xv (Value.int .i8) s0 [Ii s1,Ii s2])) BKr.out ((Qi (n:=64) LN_s0.out 1 65 (by omega)).trans rfl) _ rfl rfl) rfl ?_)
  |((with_reducible refine Qa (N:=12) rfl ?_);refine Qb (Pg g 65) (Qc 103 2 (Pg g 0) (Pg g 65) (ZM g) _ rfl rfl) rfl ?_)
  |((with_reducible refine Qf (t:=3) (p:=12) rfl ?_);refine QH sT3 g (65) (Ii (wrap64 (s2+a1))) (xv (Value.int .i8) s0 [Ii s1,Ii s2]) (xv (Value.int .i8) s0 [Ii s1,Ii (wrap64 (s2+a1))]) BKr.out (by rw [show (xv (Value.int .i8) s0 [Ii s1,Ii s2])=xv (Value.int .i8) s0 [Ii s1,Ii s2] from rfl,QE,show s0.length=64 from LN_s0.out];simp) rfl rfl ((JB (n:=64) LN_s0.out 1 65 (by omega) _).trans rfl) rfl _ _ rfl rfl rfl ?_;intro w1 ho_ hB_;replace HL:=hid (HL.out.off ho_ (.inl rfl));replace BKr:=hid hB_;clear ho_ hB_)
  |((with_reducible refine Qa (N:=15) rfl ?_);refine Qb (Pg g 65) (Qc 103 2 (Pg g 0) (Pg g 65) (ZM g) _ rfl rfl) rfl ?_)
  |((with_reducible refine Qa (N:=16) rfl ?_);refine Qb (Ii (wrap64 (s2+a1))) (Qd sT3 g (65) (Ii (wrap64 (s2+a1))) ((xv (Value.int .i8) s0 [Ii s1,Ii (wrap64 (s2+a1))])) BKr.out ((Qi (n:=64) LN_s0.out 1 65 (by omega)).trans rfl) _ rfl rfl) rfl ?_))
 (try simp only [Act.put,sI,sZ,sS])
 go_ret
 exact ⟨by first|rfl|(simp;done)|(simp [*];done),LN_s0.out,(by exact BKr.out),HL.out⟩
def QP.f(s0:List Int)(s1 s2 a1:Int):Option (Bool×(List Int)×Int×Int):=(Jn.f s2 (wrap64 (7-s1))).bind fun bt1=>(if (ofZ (Utf8.encode a1) != 0)=true then (if bt1.2=true then (if a1>122 then (some (false,s0,s1,s2)) else (if 0≤bt1.1 then (if bt1.1<64 then (some (true,s0.set bt1.1.toNat (IntKind.i8.wrap (ofZ (Utf8.encode a1))),s1,wrap64 (s2+1))) else (none)) else (none))) else (some (false,s0,s1,s2))) else (some (false,s0,s1,s2)))
theorem QP.c(s0:List Int)(s1 s2 a1:Int)(hls0:s0.length=64)(r1:Bool)(q0:List Int)(q1 q2:Int)(g:Nat)(w:World)(hB:Blk w g 103 (xv (Value.int .i8) s0 [Ii s1,Ii s2]))(h:QP.f s0 s1 s2 a1=some (r1,q0,q1,q2)):
 Calls Tryz.prog 90 #[Pg g 0,.int .i32 a1] w fun e w'=>e=.returned (.bool r1)∧q0.length=64∧Blk w' g 103 (xv (Value.int .i8) q0 [Ii q1,Ii q2])∧Bex g w.heap.size w w':=by
 have LN_s0:=hid hls0
 clear hls0
 have BKr:=hid hB
 clear hB
 have HL:=hid (Bex.refl g w.heap.size w)
 have H:((Jn.f s2 (wrap64 (7-s1))).bind fun bt1=>(if (ofZ (Utf8.encode a1) != 0)=true then (if bt1.2=true then (if a1>122 then (some (false,s0,s1,s2)) else (if 0≤bt1.1 then (if bt1.1<64 then (some (true,s0.set bt1.1.toNat (IntKind.i8.wrap (ofZ (Utf8.encode a1))),s1,wrap64 (s2+1))) else (none)) else (none))) else (some (false,s0,s1,s2))) else (some (false,s0,s1,s2))))=some (r1,q0,q1,q2):=h
 clear h
 replace H:=Ia H
 obtain ⟨⟨t1,t2⟩,A3_,H⟩:=H
 dsimp only at H
 have A3:=hid A3_
 clear A3_
 by_cases c4:(ofZ (Utf8.encode a1) != 0)=true
 ·
  rw [if_pos c4] at H
  have c4b0:(ofZ (Utf8.encode a1) != 0)=true:=c4
  (try have c4b1:decide (ofZ (Utf8.encode a1)=0)=false:=by simpa using c4)
  (try have c4b2:(ofZ (Utf8.encode a1)==0)=false:=by simpa using c4)
  (try have c4b3:¬ (ofZ (Utf8.encode a1)=0):=by simpa using c4)
  have hc4:=hid c4
  clear c4
  cases t2 with
  |true=>
   rw [if_pos rfl] at H
   by_cases c6:a1>122
   ·
    rw [if_pos c6] at H
    have c6b0:decide (122<a1)=true:=decide_eq_true c6
    have hc6:=hid c6
    clear c6
    simp only [Option.some.injEq,Prod.mk.injEq] at H
    obtain ⟨rfl,rfl,rfl,rfl⟩:=H
    go_enter Tryz.func90,Tryz.ntmps90
    have k7:=True.intro
    go_wp2_with (first
     |(go_at_call 105;clear k7;refine (Qay (Utf8.encode a1) (qy _) _).mono ?_;rintro e_ w8 ⟨rfl,hb_⟩;replace BKr:=hid (BKr.out.below hb_ BKr.out.lt);replace HL:=hid (HL.out.below hb_ HL.out.size);clear hb_))
    (try simp only [Act.put,sI,sZ,sS])
    have WR64:=Zs
    have WR32:=ZA
    refine Xb (by kernel_rfl) (by kernel_rfl) ?_
    refine QY (Pg g 0) (fun z_ hc_=>Qo (.tmp 0) (.inl rfl) _ rfl) rfl rfl ?_
    intro t_ k_;simp only [sI,sZ,sS] at k_;subst k_
    refine QY (Pg g 0) (fun z_ hc_=>by go_simp <;> (unfold wrap64;omega)) rfl rfl ?_
    intro t_ k_;simp only [sI,sZ,sS] at k_;subst k_
    refine QY (Pg g 65) (fun z_ hc_=>by obtain ⟨n_,hn_⟩:=hc_;exact Qc 103 2 (Pg g 0) (Pg g 65) (ZM g) _ rfl rfl) rfl rfl ?_
    intro t_ k_;simp only [sI,sZ,sS] at k_;subst k_
    refine QY (Ii s2) (fun z_ hc_=>by obtain ⟨n_,hn_⟩:=hc_;exact Qd sT3 g (65) (Ii s2) ((xv (Value.int .i8) s0 [Ii s1,Ii s2])) (by rw [hn_];exact BKr.out.below n_.below BKr.out.lt) ((Qi (n:=64) LN_s0.out 1 65 (by omega)).trans rfl) _ rfl rfl) rfl rfl ?_
    intro t_ k_;simp only [sI,sZ,sS] at k_;subst k_
    refine QY (Pg g 0) (fun z_ hc_=>Qo (.tmp 0) (.inl rfl) _ rfl) rfl rfl ?_
    intro t_ k_;simp only [sI,sZ,sS] at k_;subst k_
    refine QY (Pg g 0) (fun z_ hc_=>by go_simp <;> (unfold wrap64;omega)) rfl rfl ?_
    intro t_ k_;simp only [sI,sZ,sS] at k_;subst k_
    refine QY (Pg g 64) (fun z_ hc_=>by obtain ⟨n_,hn_⟩:=hc_;exact Qc 103 1 (Pg g 0) (Pg g 64) (Ki g) _ rfl rfl) rfl rfl ?_
    intro t_ k_;simp only [sI,sZ,sS] at k_;subst k_
    refine QY (Ii s1) (fun z_ hc_=>by obtain ⟨n_,hn_⟩:=hc_;exact Qd sT3 g (64) (Ii s1) ((xv (Value.int .i8) s0 [Ii s1,Ii s2])) (by rw [hn_];exact BKr.out.below n_.below BKr.out.lt) ((Qi (n:=64) LN_s0.out 0 64 (by omega)).trans rfl) _ rfl rfl) rfl rfl ?_
    intro t_ k_;simp only [sI,sZ,sS] at k_;subst k_
    refine QY (Ii (wrap64 (7-s1))) (fun z_ hc_=>by go_simp <;> (unfold wrap64;omega)) rfl rfl ?_
    intro t_ k_;simp only [sI,sZ,sS] at k_;subst k_
    refine zC (.tuple #[Ii t1,.bool true]) 57 #[Ii s2,Ii (wrap64 (7-s1))] (fun z_=>by go_simp) (fun z_ hc_=>(Jn.c s2 (wrap64 (7-s1)) t1 true _ A3.out).mono fun e_ w2_ h_=>⟨h_.1,qZ hc_ h_.2⟩) rfl rfl ?_
    intro t_ k_;simp only [sI,sZ,sS] at k_;subst k_
    refine QY (.tuple #[Ii t1,.bool true]) (fun z_ hc_=>Qo (.tmp 25) (.inl rfl) _ rfl) rfl rfl ?_
    intro t_ k_;simp only [sI,sZ,sS] at k_;subst k_
    refine QY (Ii t1) (fun z_ hc_=>by go_simp <;> (unfold wrap64;omega)) rfl rfl ?_
    intro t_ k_;simp only [sI,sZ,sS] at k_;subst k_
    refine QY (.bool true) (fun z_ hc_=>by go_simp <;> (unfold wrap64;omega)) rfl rfl ?_
    intro t_ k_;simp only [sI,sZ,sS] at k_;subst k_
    refine QY (Ii t1) (fun z_ hc_=>Qo (.tmp 26) (.inr rfl) _ rfl) rfl rfl ?_
    intro t_ k_;simp only [sI,sZ,sS] at k_;subst k_
    refine QY (.bool true) (fun z_ hc_=>Qo (.tmp 27) (.inr rfl) _ rfl) rfl rfl ?_
    intro t_ k_;simp only [sI,sZ,sS] at k_;subst k_
    refine qg ?_
    rintro w8_ ⟨n_,rfl⟩
    replace BKr:=hid (BKr.out.below n_.below BKr.out.lt)
    replace HL:=hid (HL.out.below n_.below HL.out.size)
    generalize n_.world=w9 at *
    clear n_ WR64 WR32
    go_wp2_with fail
    (try simp only [Act.put,sI,sZ,sS])
    go_ret
    exact ⟨by first|rfl|(simp;done)|(simp [*];done),LN_s0.out,(by exact BKr.out),HL.out⟩
   ·
    rw [if_neg c6] at H
    have c6b0:decide (122<a1)=false:=decide_eq_false c6
    have hc6:=hid c6
    clear c6
    by_cases c10:0≤t1
    ·
     rw [if_pos c10] at H
     have c10b0:decide (0≤t1)=true:=decide_eq_true c10
     have hc10:=hid c10
     clear c10
     by_cases c11:t1<64
     ·
      rw [if_pos c11] at H
      have c11b0:decide (t1<64)=true:=decide_eq_true c11
      have hc11:=hid c11
      clear c11
      simp only [Option.some.injEq,Prod.mk.injEq] at H
      obtain ⟨rfl,rfl,rfl,rfl⟩:=H
      go_enter Tryz.func90,Tryz.ntmps90
      have k12:=True.intro
      go_wp2_with (first
       |(go_at_call 105;clear k12;refine (Qay (Utf8.encode a1) (qy _) _).mono ?_;rintro e_ w13 ⟨rfl,hb_⟩;replace BKr:=hid (BKr.out.below hb_ BKr.out.lt);replace HL:=hid (HL.out.below hb_ HL.out.size);clear hb_))
      (try simp only [Act.put,sI,sZ,sS])
      have WR64:=Zs
      have WR32:=ZA
      refine Xb (by kernel_rfl) (by kernel_rfl) ?_
      refine QY (Pg g 0) (fun z_ hc_=>Qo (.tmp 0) (.inl rfl) _ rfl) rfl rfl ?_
      intro t_ k_;simp only [sI,sZ,sS] at k_;subst k_
      refine QY (Pg g 0) (fun z_ hc_=>by go_simp <;> (unfold wrap64;omega)) rfl rfl ?_
      intro t_ k_;simp only [sI,sZ,sS] at k_;subst k_
      refine QY (Pg g 65) (fun z_ hc_=>by obtain ⟨n_,hn_⟩:=hc_;exact Qc 103 2 (Pg g 0) (Pg g 65) (ZM g) _ rfl rfl) rfl rfl ?_
      intro t_ k_;simp only [sI,sZ,sS] at k_;subst k_
      refine QY (Ii s2) (fun z_ hc_=>by obtain ⟨n_,hn_⟩:=hc_;exact Qd sT3 g (65) (Ii s2) ((xv (Value.int .i8) s0 [Ii s1,Ii s2])) (by rw [hn_];exact BKr.out.below n_.below BKr.out.lt) ((Qi (n:=64) LN_s0.out 1 65 (by omega)).trans rfl) _ rfl rfl) rfl rfl ?_
      intro t_ k_;simp only [sI,sZ,sS] at k_;subst k_
      refine QY (Pg g 0) (fun z_ hc_=>Qo (.tmp 0) (.inl rfl) _ rfl) rfl rfl ?_
      intro t_ k_;simp only [sI,sZ,sS] at k_;subst k_
      refine QY (Pg g 0) (fun z_ hc_=>by go_simp <;> (unfold wrap64;omega)) rfl rfl ?_
      intro t_ k_;simp only [sI,sZ,sS] at k_;subst k_
      refine QY (Pg g 64) (fun z_ hc_=>by obtain ⟨n_,hn_⟩:=hc_;exact Qc 103 1 (Pg g 0) (Pg g 64) (Ki g) _ rfl rfl) rfl rfl ?_
      intro t_ k_;simp only [sI,sZ,sS] at k_;subst k_
      refine QY (Ii s1) (fun z_ hc_=>by obtain ⟨n_,hn_⟩:=hc_;exact Qd sT3 g (64) (Ii s1) ((xv (Value.int .i8) s0 [Ii s1,Ii s2])) (by rw [hn_];exact BKr.out.below n_.below BKr.out.lt) ((Qi (n:=64) LN_s0.out 0 64 (by omega)).trans rfl) _ rfl rfl) rfl rfl ?_
      intro t_ k_;simp only [sI,sZ,sS] at k_;subst k_
      refine QY (Ii (wrap64 (7-s1))) (fun z_ hc_=>by go_simp <;> (unfold wrap64;omega)) rfl rfl ?_
      intro t_ k_;simp only [sI,sZ,sS] at k_;subst k_
      refine zC (.tuple #[Ii t1,.bool true]) 57 #[Ii s2,Ii (wrap64 (7-s1))] (fun z_=>by go_simp) (fun z_ hc_=>(Jn.c s2 (wrap64 (7-s1)) t1 true _ A3.out).mono fun e_ w2_ h_=>⟨h_.1,qZ hc_ h_.2⟩) rfl rfl ?_
      intro t_ k_;simp only [sI,sZ,sS] at k_;subst k_
      refine QY (.tuple #[Ii t1,.bool true]) (fun z_ hc_=>Qo (.tmp 25) (.inl rfl) _ rfl) rfl rfl ?_
      intro t_ k_;simp only [sI,sZ,sS] at k_;subst k_
      refine QY (Ii t1) (fun z_ hc_=>by go_simp <;> (unfold wrap64;omega)) rfl rfl ?_
      intro t_ k_;simp only [sI,sZ,sS] at k_;subst k_
      refine QY (.bool true) (fun z_ hc_=>by go_simp <;> (unfold wrap64;omega)) rfl rfl ?_
      intro t_ k_;simp only [sI,sZ,sS] at k_;subst k_
      refine QY (Ii t1) (fun z_ hc_=>Qo (.tmp 26) (.inr rfl) _ rfl) rfl rfl ?_
      intro t_ k_;simp only [sI,sZ,sS] at k_;subst k_
      refine QY (.bool true) (fun z_ hc_=>Qo (.tmp 27) (.inr rfl) _ rfl) rfl rfl ?_
      intro t_ k_;simp only [sI,sZ,sS] at k_;subst k_
      refine qg ?_
      rintro w8_ ⟨n_,rfl⟩
      replace BKr:=hid (BKr.out.below n_.below BKr.out.lt)
      replace HL:=hid (HL.out.below n_.below HL.out.size)
      generalize n_.world=w14 at *
      clear n_ WR64 WR32
      go_wp2_with (first
       |((with_reducible refine Qa (N:=43) rfl ?_);refine Qb (Pg g 0) (Qc 103 0 (Pg g 0) (Pg g 0) (jU g) _ rfl rfl) rfl ?_)
       |((with_reducible refine Qa (N:=44) rfl ?_);refine Qb (.pointer (some ⟨g,t1.toNat,none⟩)) (KZ 24 (Pg g 0) (Ii t1) (.pointer (some ⟨g,t1.toNat,none⟩)) (fun w_=>(Xy 22 qX KQ.size g 0 t1 hc10.out hc11.out w_).trans (by simp)) _ _ rfl rfl rfl) rfl ?_)
       |((with_reducible refine Qf (t:=22) (p:=44) rfl ?_);refine QH KQ g (t1.toNat) (.int .i8 (IntKind.i8.wrap (ofZ (Utf8.encode a1)))) (xv (Value.int .i8) s0 [Ii s1,Ii s2]) (xv (Value.int .i8) (s0.set t1.toNat (IntKind.i8.wrap (ofZ (Utf8.encode a1)))) [Ii s1,Ii s2]) BKr.out (by rw [show (xv (Value.int .i8) s0 [Ii s1,Ii s2])=xv (Value.int .i8) s0 [Ii s1,Ii s2] from rfl,QE];have hlt_:t1.toNat<s0.length:=(by have h_:s0.length=64:=LN_s0.out;have h1_:=hc10.out;have h2_:=hc11.out;omega);simp;omega) rfl rfl (vF (by have h_:s0.length=64:=LN_s0.out;have h1_:=hc10.out;have h2_:=hc11.out;omega) _) rfl _ _ rfl rfl rfl ?_;intro w15 ho_ hB_;replace HL:=hid (HL.out.off ho_ (.inl rfl));replace BKr:=hid hB_;clear ho_ hB_)
       |((with_reducible refine Qa (N:=47) rfl ?_);refine Qb (Pg g 65) (Qc 103 2 (Pg g 0) (Pg g 65) (ZM g) _ rfl rfl) rfl ?_)
       |((with_reducible refine Qa (N:=48) rfl ?_);refine Qb (Ii s2) (Qd sT3 g (65) (Ii s2) ((xv (Value.int .i8) (s0.set t1.toNat (IntKind.i8.wrap (ofZ (Utf8.encode a1)))) [Ii s1,Ii s2])) BKr.out ((Qi (n:=64) (by first|rfl|(simp only [List.length_set,List.length_replicate,Qh,List.length_cons,List.length_nil,LN_s0.out];done)|(simp [Qh,LN_s0.out];done)) 1 65 (by omega)).trans rfl) _ rfl rfl) rfl ?_)
       |((with_reducible refine Qa (N:=51) rfl ?_);refine Qb (Pg g 65) (Qc 103 2 (Pg g 0) (Pg g 65) (ZM g) _ rfl rfl) rfl ?_)
       |((with_reducible refine Qf (t:=3) (p:=51) rfl ?_);refine QH sT3 g (65) (Ii (wrap64 (s2+1))) (xv (Value.int .i8) (s0.set t1.toNat (IntKind.i8.wrap (ofZ (Utf8.encode a1)))) [Ii s1,Ii s2]) (xv (Value.int .i8) (s0.set t1.toNat (IntKind.i8.wrap (ofZ (Utf8.encode a1)))) [Ii s1,Ii (wrap64 (s2+1))]) BKr.out (by rw [show (xv (Value.int .i8) (s0.set t1.toNat (IntKind.i8.wrap (ofZ (Utf8.encode a1)))) [Ii s1,Ii s2])=xv (Value.int .i8) (s0.set t1.toNat (IntKind.i8.wrap (ofZ (Utf8.encode a1)))) [Ii s1,Ii s2] from rfl,QE,show (s0.set t1.toNat (IntKind.i8.wrap (ofZ (Utf8.encode a1)))).length=64 from (by first|rfl|(simp only [List.length_set,List.length_replicate,Qh,List.length_cons,List.length_nil,LN_s0.out];done)|(simp [Qh,LN_s0.out];done))];simp) rfl rfl ((JB (n:=64) (by first|rfl|(simp only [List.length_set,List.length_replicate,Qh,List.length_cons,List.length_nil,LN_s0.out];done)|(simp [Qh,LN_s0.out];done)) 1 65 (by omega) _).trans rfl) rfl _ _ rfl rfl rfl ?_;intro w16 ho_ hB_;replace HL:=hid (HL.out.off ho_ (.inl rfl));replace BKr:=hid hB_;clear ho_ hB_))
      (try simp only [Act.put,sI,sZ,sS])
      go_ret
      exact ⟨by first|rfl|(simp;done)|(simp [*];done),(by first|rfl|(simp only [List.length_set,List.length_replicate,Qh,List.length_cons,List.length_nil,LN_s0.out];done)|(simp [Qh,LN_s0.out];done)),(by exact BKr.out),HL.out⟩
     ·
      rw [if_neg c11] at H
      exact absurd H (by simp)
    ·
     rw [if_neg c10] at H
     exact absurd H (by simp)
  |false=>
   rw [if_neg (show ¬ (false=true) by decide)] at H
   simp only [Option.some.injEq,Prod.mk.injEq] at H
   obtain ⟨rfl,rfl,rfl,rfl⟩:=H
   go_enter Tryz.func90,Tryz.ntmps90
   have k17:=True.intro
   go_wp2_with (first
    |(go_at_call 105;clear k17;refine (Qay (Utf8.encode a1) (qy _) _).mono ?_;rintro e_ w18 ⟨rfl,hb_⟩;replace BKr:=hid (BKr.out.below hb_ BKr.out.lt);replace HL:=hid (HL.out.below hb_ HL.out.size);clear hb_))
   (try simp only [Act.put,sI,sZ,sS])
   have WR64:=Zs
   have WR32:=ZA
   refine Xb (by kernel_rfl) (by kernel_rfl) ?_
   refine QY (Pg g 0) (fun z_ hc_=>Qo (.tmp 0) (.inl rfl) _ rfl) rfl rfl ?_
   intro t_ k_;simp only [sI,sZ,sS] at k_;subst k_
   refine QY (Pg g 0) (fun z_ hc_=>by go_simp <;> (unfold wrap64;omega)) rfl rfl ?_
   intro t_ k_;simp only [sI,sZ,sS] at k_;subst k_
   refine QY (Pg g 65) (fun z_ hc_=>by obtain ⟨n_,hn_⟩:=hc_;exact Qc 103 2 (Pg g 0) (Pg g 65) (ZM g) _ rfl rfl) rfl rfl ?_
   intro t_ k_;simp only [sI,sZ,sS] at k_;subst k_
   refine QY (Ii s2) (fun z_ hc_=>by obtain ⟨n_,hn_⟩:=hc_;exact Qd sT3 g (65) (Ii s2) ((xv (Value.int .i8) s0 [Ii s1,Ii s2])) (by rw [hn_];exact BKr.out.below n_.below BKr.out.lt) ((Qi (n:=64) LN_s0.out 1 65 (by omega)).trans rfl) _ rfl rfl) rfl rfl ?_
   intro t_ k_;simp only [sI,sZ,sS] at k_;subst k_
   refine QY (Pg g 0) (fun z_ hc_=>Qo (.tmp 0) (.inl rfl) _ rfl) rfl rfl ?_
   intro t_ k_;simp only [sI,sZ,sS] at k_;subst k_
   refine QY (Pg g 0) (fun z_ hc_=>by go_simp <;> (unfold wrap64;omega)) rfl rfl ?_
   intro t_ k_;simp only [sI,sZ,sS] at k_;subst k_
   refine QY (Pg g 64) (fun z_ hc_=>by obtain ⟨n_,hn_⟩:=hc_;exact Qc 103 1 (Pg g 0) (Pg g 64) (Ki g) _ rfl rfl) rfl rfl ?_
   intro t_ k_;simp only [sI,sZ,sS] at k_;subst k_
   refine QY (Ii s1) (fun z_ hc_=>by obtain ⟨n_,hn_⟩:=hc_;exact Qd sT3 g (64) (Ii s1) ((xv (Value.int .i8) s0 [Ii s1,Ii s2])) (by rw [hn_];exact BKr.out.below n_.below BKr.out.lt) ((Qi (n:=64) LN_s0.out 0 64 (by omega)).trans rfl) _ rfl rfl) rfl rfl ?_
   intro t_ k_;simp only [sI,sZ,sS] at k_;subst k_
   refine QY (Ii (wrap64 (7-s1))) (fun z_ hc_=>by go_simp <;> (unfold wrap64;omega)) rfl rfl ?_
   intro t_ k_;simp only [sI,sZ,sS] at k_;subst k_
   refine zC (.tuple #[Ii t1,.bool false]) 57 #[Ii s2,Ii (wrap64 (7-s1))] (fun z_=>by go_simp) (fun z_ hc_=>(Jn.c s2 (wrap64 (7-s1)) t1 false _ A3.out).mono fun e_ w2_ h_=>⟨h_.1,qZ hc_ h_.2⟩) rfl rfl ?_
   intro t_ k_;simp only [sI,sZ,sS] at k_;subst k_
   refine QY (.tuple #[Ii t1,.bool false]) (fun z_ hc_=>Qo (.tmp 25) (.inl rfl) _ rfl) rfl rfl ?_
   intro t_ k_;simp only [sI,sZ,sS] at k_;subst k_
   refine QY (Ii t1) (fun z_ hc_=>by go_simp <;> (unfold wrap64;omega)) rfl rfl ?_
   intro t_ k_;simp only [sI,sZ,sS] at k_;subst k_
   refine QY (.bool false) (fun z_ hc_=>by go_simp <;> (unfold wrap64;omega)) rfl rfl ?_
   intro t_ k_;simp only [sI,sZ,sS] at k_;subst k_
   refine QY (Ii t1) (fun z_ hc_=>Qo (.tmp 26) (.inr rfl) _ rfl) rfl rfl ?_
   intro t_ k_;simp only [sI,sZ,sS] at k_;subst k_
   refine QY (.bool false) (fun z_ hc_=>Qo (.tmp 27) (.inr rfl) _ rfl) rfl rfl ?_
   intro t_ k_;simp only [sI,sZ,sS] at k_;subst k_
   refine qg ?_
   rintro w8_ ⟨n_,rfl⟩
   replace BKr:=hid (BKr.out.below n_.below BKr.out.lt)
   replace HL:=hid (HL.out.below n_.below HL.out.size)
   generalize n_.world=w19 at *
   clear n_ WR64 WR32
   go_wp2_with fail
   (try simp only [Act.put,sI,sZ,sS])
   go_ret
   exact ⟨by first|rfl|(simp;done)|(simp [*];done),LN_s0.out,(by exact BKr.out),HL.out⟩
 ·
  rw [if_neg c4] at H
  have c4b0:(ofZ (Utf8.encode a1) != 0)=false:=by simpa using c4
  (try have c4b1:decide (ofZ (Utf8.encode a1)=0)=true:=by simpa using c4)
  (try have c4b2:(ofZ (Utf8.encode a1)==0)=true:=by simpa using c4)
  have hc4:=hid c4
  clear c4
  simp only [Option.some.injEq,Prod.mk.injEq] at H
  obtain ⟨rfl,rfl,rfl,rfl⟩:=H
  go_enter Tryz.func90,Tryz.ntmps90
  have k20:=True.intro
  go_wp2_with (first
   |(go_at_call 105;clear k20;refine (Qay (Utf8.encode a1) (qy _) _).mono ?_;rintro e_ w21 ⟨rfl,hb_⟩;replace BKr:=hid (BKr.out.below hb_ BKr.out.lt);replace HL:=hid (HL.out.below hb_ HL.out.size);clear hb_))
  (try simp only [Act.put,sI,sZ,sS])
  have WR64:=Zs
  have WR32:=ZA
  refine Xb (by kernel_rfl) (by kernel_rfl) ?_
  refine QY (Pg g 0) (fun z_ hc_=>Qo (.tmp 0) (.inl rfl) _ rfl) rfl rfl ?_
  intro t_ k_;simp only [sI,sZ,sS] at k_;subst k_
  refine QY (Pg g 0) (fun z_ hc_=>by go_simp <;> (unfold wrap64;omega)) rfl rfl ?_
  intro t_ k_;simp only [sI,sZ,sS] at k_;subst k_
  refine QY (Pg g 65) (fun z_ hc_=>by obtain ⟨n_,hn_⟩:=hc_;exact Qc 103 2 (Pg g 0) (Pg g 65) (ZM g) _ rfl rfl) rfl rfl ?_
  intro t_ k_;simp only [sI,sZ,sS] at k_;subst k_
  refine QY (Ii s2) (fun z_ hc_=>by obtain ⟨n_,hn_⟩:=hc_;exact Qd sT3 g (65) (Ii s2) ((xv (Value.int .i8) s0 [Ii s1,Ii s2])) (by rw [hn_];exact BKr.out.below n_.below BKr.out.lt) ((Qi (n:=64) LN_s0.out 1 65 (by omega)).trans rfl) _ rfl rfl) rfl rfl ?_
  intro t_ k_;simp only [sI,sZ,sS] at k_;subst k_
  refine QY (Pg g 0) (fun z_ hc_=>Qo (.tmp 0) (.inl rfl) _ rfl) rfl rfl ?_
  intro t_ k_;simp only [sI,sZ,sS] at k_;subst k_
  refine QY (Pg g 0) (fun z_ hc_=>by go_simp <;> (unfold wrap64;omega)) rfl rfl ?_
  intro t_ k_;simp only [sI,sZ,sS] at k_;subst k_
  refine QY (Pg g 64) (fun z_ hc_=>by obtain ⟨n_,hn_⟩:=hc_;exact Qc 103 1 (Pg g 0) (Pg g 64) (Ki g) _ rfl rfl) rfl rfl ?_
  intro t_ k_;simp only [sI,sZ,sS] at k_;subst k_
  refine QY (Ii s1) (fun z_ hc_=>by obtain ⟨n_,hn_⟩:=hc_;exact Qd sT3 g (64) (Ii s1) ((xv (Value.int .i8) s0 [Ii s1,Ii s2])) (by rw [hn_];exact BKr.out.below n_.below BKr.out.lt) ((Qi (n:=64) LN_s0.out 0 64 (by omega)).trans rfl) _ rfl rfl) rfl rfl ?_
  intro t_ k_;simp only [sI,sZ,sS] at k_;subst k_
  refine QY (Ii (wrap64 (7-s1))) (fun z_ hc_=>by go_simp <;> (unfold wrap64;omega)) rfl rfl ?_
  intro t_ k_;simp only [sI,sZ,sS] at k_;subst k_
  refine zC (.tuple #[Ii t1,.bool t2]) 57 #[Ii s2,Ii (wrap64 (7-s1))] (fun z_=>by go_simp) (fun z_ hc_=>(Jn.c s2 (wrap64 (7-s1)) t1 t2 _ A3.out).mono fun e_ w2_ h_=>⟨h_.1,qZ hc_ h_.2⟩) rfl rfl ?_
  intro t_ k_;simp only [sI,sZ,sS] at k_;subst k_
  refine QY (.tuple #[Ii t1,.bool t2]) (fun z_ hc_=>Qo (.tmp 25) (.inl rfl) _ rfl) rfl rfl ?_
  intro t_ k_;simp only [sI,sZ,sS] at k_;subst k_
  refine QY (Ii t1) (fun z_ hc_=>by go_simp <;> (unfold wrap64;omega)) rfl rfl ?_
  intro t_ k_;simp only [sI,sZ,sS] at k_;subst k_
  refine QY (.bool t2) (fun z_ hc_=>by go_simp <;> (unfold wrap64;omega)) rfl rfl ?_
  intro t_ k_;simp only [sI,sZ,sS] at k_;subst k_
  refine QY (Ii t1) (fun z_ hc_=>Qo (.tmp 26) (.inr rfl) _ rfl) rfl rfl ?_
  intro t_ k_;simp only [sI,sZ,sS] at k_;subst k_
  refine QY (.bool t2) (fun z_ hc_=>Qo (.tmp 27) (.inr rfl) _ rfl) rfl rfl ?_
  intro t_ k_;simp only [sI,sZ,sS] at k_;subst k_
  refine qg ?_
  rintro w8_ ⟨n_,rfl⟩
  replace BKr:=hid (BKr.out.below n_.below BKr.out.lt)
  replace HL:=hid (HL.out.below n_.below HL.out.size)
  generalize n_.world=w22 at *
  clear n_ WR64 WR32
  go_wp2_with fail
  (try simp only [Act.put,sI,sZ,sS])
  go_ret
  exact ⟨by first|rfl|(simp;done)|(simp [*];done),LN_s0.out,(by exact BKr.out),HL.out⟩
def QZ.f(s0:List Int)(s1 s2 a1:Int):Option (Bool×(List Int)×Int×Int):=if a1=47 then ((Qp.f s0 s1 s2).bind fun t1=>(if t1=true then ((QQ.f s0 s1 s2).bind fun t2=>(if t2=true then (some (false,s0,s1,s2)) else (some (true,s0,wrap64 (s1+1),0)))) else (some (false,s0,s1,s2)))) else ((Qp.f s0 s1 s2).bind fun t3=>(if t3=true then (some (false,s0,s1,s2)) else (if a1≥49 then (if a1≤56 then ((JF.f s0 s1 s2 (wrap64 (wrap32 (a1-48)))).bind fun bt4=>(some (bt4.1,bt4.2.1,bt4.2.2.1,bt4.2.2.2))) else ((QP.f s0 s1 s2 a1).bind fun bt8=>(some (bt8.1,bt8.2.1,bt8.2.2.1,bt8.2.2.2)))) else ((QP.f s0 s1 s2 a1).bind fun bt12=>(some (bt12.1,bt12.2.1,bt12.2.2.1,bt12.2.2.2))))))
theorem QZ.c(s0:List Int)(s1 s2 a1:Int)(hls0:s0.length=64)(r1:Bool)(q0:List Int)(q1 q2:Int)(g:Nat)(w:World)(hB:Blk w g 103 (xv (Value.int .i8) s0 [Ii s1,Ii s2]))(h:QZ.f s0 s1 s2 a1=some (r1,q0,q1,q2)):
 Calls Tryz.prog 70 #[Pg g 0,.int .i32 a1] w fun e w'=>e=.returned (.bool r1)∧q0.length=64∧Blk w' g 103 (xv (Value.int .i8) q0 [Ii q1,Ii q2])∧Bex g w.heap.size w w':=by
 have LN_s0:=hid hls0
 clear hls0
 have BKr:=hid hB
 clear hB
 have HL:=hid (Bex.refl g w.heap.size w)
 have H:(if a1=47 then ((Qp.f s0 s1 s2).bind fun t1=>(if t1=true then ((QQ.f s0 s1 s2).bind fun t2=>(if t2=true then (some (false,s0,s1,s2)) else (some (true,s0,wrap64 (s1+1),0)))) else (some (false,s0,s1,s2)))) else ((Qp.f s0 s1 s2).bind fun t3=>(if t3=true then (some (false,s0,s1,s2)) else (if a1≥49 then (if a1≤56 then ((JF.f s0 s1 s2 (wrap64 (wrap32 (a1-48)))).bind fun bt4=>(some (bt4.1,bt4.2.1,bt4.2.2.1,bt4.2.2.2))) else ((QP.f s0 s1 s2 a1).bind fun bt8=>(some (bt8.1,bt8.2.1,bt8.2.2.1,bt8.2.2.2)))) else ((QP.f s0 s1 s2 a1).bind fun bt12=>(some (bt12.1,bt12.2.1,bt12.2.2.1,bt12.2.2.2)))))))=some (r1,q0,q1,q2):=h
 clear h
 by_cases c16:a1=47
 ·
  rw [if_pos c16] at H
  have c16b0:(a1==47)=true:=beq_iff_eq.mpr c16
  have c16b1:(a1 != 47)=false:=bne_eq_false_iff_eq.mpr c16
  have hc16:=hid c16
  clear c16
  replace H:=Ia H
  obtain ⟨t1,A17_,H⟩:=H
  have A17:=hid A17_
  clear A17_
  cases t1 with
  |true=>
   rw [if_pos rfl] at H
   have H':=hid H
   clear H
   go_enter Tryz.func70,Tryz.ntmps70
   have k20:=True.intro
   go_wp2_with (first
    |(go_at_call 88;clear k20;refine (Qp.c s0 s1 s2 LN_s0.out true g _ BKr.out A17.out).mono ?_;rintro e_ w' ⟨rfl,rfl⟩))
   (try simp only [Act.put,sI,sZ,sS])
   have H:=H'.out
   clear H'
   replace H:=Ia H
   obtain ⟨t2,A19_,H⟩:=H
   have A19:=hid A19_
   clear A19_
   cases t2 with
   |true=>
    rw [if_pos rfl] at H
    simp only [Option.some.injEq,Prod.mk.injEq] at H
    obtain ⟨rfl,rfl,rfl,rfl⟩:=H
    have k22:=True.intro
    go_wp2_with (first
     |(go_at_call 71;clear k22;refine (QQ.c s0 s1 s2 LN_s0.out true g _ BKr.out A19.out).mono ?_;rintro e_ w' ⟨rfl,rfl⟩))
    (try simp only [Act.put,sI,sZ,sS])
    go_ret
    exact ⟨by first|rfl|(simp;done)|(simp [*];done),LN_s0.out,(by exact BKr.out),HL.out⟩
   |false=>
    rw [if_neg (show ¬ (false=true) by decide)] at H
    simp only [Option.some.injEq,Prod.mk.injEq] at H
    obtain ⟨rfl,rfl,rfl,rfl⟩:=H
    have k23:=True.intro
    go_wp2_with (first
     |(go_at_call 71;clear k23;refine (QQ.c s0 s1 s2 LN_s0.out false g _ BKr.out A19.out).mono ?_;rintro e_ w' ⟨rfl,rfl⟩)
     |((with_reducible refine Qa (N:=19) rfl ?_);refine Qb (Pg g 64) (Qc 103 1 (Pg g 0) (Pg g 64) (Ki g) _ rfl rfl) rfl ?_)
     |((with_reducible refine Qa (N:=20) rfl ?_);refine Qb (Ii s1) (Qd sT3 g (64) (Ii s1) ((xv (Value.int .i8) s0 [Ii s1,Ii s2])) BKr.out ((Qi (n:=64) LN_s0.out 0 64 (by omega)).trans rfl) _ rfl rfl) rfl ?_)
     |((with_reducible refine Qa (N:=23) rfl ?_);refine Qb (Pg g 64) (Qc 103 1 (Pg g 0) (Pg g 64) (Ki g) _ rfl rfl) rfl ?_)
     |((with_reducible refine Qf (t:=3) (p:=23) rfl ?_);refine QH sT3 g (64) (Ii (wrap64 (s1+1))) (xv (Value.int .i8) s0 [Ii s1,Ii s2]) (xv (Value.int .i8) s0 [Ii (wrap64 (s1+1)),Ii s2]) BKr.out (by rw [show (xv (Value.int .i8) s0 [Ii s1,Ii s2])=xv (Value.int .i8) s0 [Ii s1,Ii s2] from rfl,QE,show s0.length=64 from LN_s0.out];simp) rfl rfl ((JB (n:=64) LN_s0.out 0 64 (by omega) _).trans rfl) rfl _ _ rfl rfl rfl ?_;intro w24 ho_ hB_;replace HL:=hid (HL.out.off ho_ (.inl rfl));replace BKr:=hid hB_;clear ho_ hB_)
     |((with_reducible refine Qa (N:=25) rfl ?_);refine Qb (Pg g 65) (Qc 103 2 (Pg g 0) (Pg g 65) (ZM g) _ rfl rfl) rfl ?_)
     |((with_reducible refine Qf (t:=3) (p:=25) rfl ?_);refine QH sT3 g (65) (Ii 0) (xv (Value.int .i8) s0 [Ii (wrap64 (s1+1)),Ii s2]) (xv (Value.int .i8) s0 [Ii (wrap64 (s1+1)),Ii 0]) BKr.out (by rw [show (xv (Value.int .i8) s0 [Ii (wrap64 (s1+1)),Ii s2])=xv (Value.int .i8) s0 [Ii (wrap64 (s1+1)),Ii s2] from rfl,QE,show s0.length=64 from LN_s0.out];simp) rfl rfl ((JB (n:=64) LN_s0.out 1 65 (by omega) _).trans rfl) rfl _ _ rfl rfl rfl ?_;intro w25 ho_ hB_;replace HL:=hid (HL.out.off ho_ (.inl rfl));replace BKr:=hid hB_;clear ho_ hB_))
    (try simp only [Act.put,sI,sZ,sS])
    go_ret
    exact ⟨by first|rfl|(simp;done)|(simp [*];done),LN_s0.out,(by exact BKr.out),HL.out⟩
  |false=>
   rw [if_neg (show ¬ (false=true) by decide)] at H
   simp only [Option.some.injEq,Prod.mk.injEq] at H
   obtain ⟨rfl,rfl,rfl,rfl⟩:=H
   go_enter Tryz.func70,Tryz.ntmps70
   have k26:=True.intro
   go_wp2_with (first
    |(go_at_call 88;clear k26;refine (Qp.c s0 s1 s2 LN_s0.out false g _ BKr.out A17.out).mono ?_;rintro e_ w' ⟨rfl,rfl⟩))
   (try simp only [Act.put,sI,sZ,sS])
   go_ret
   exact ⟨by first|rfl|(simp;done)|(simp [*];done),LN_s0.out,(by exact BKr.out),HL.out⟩
 ·
  rw [if_neg c16] at H
  have c16b0:(a1==47)=false:=beq_eq_false_iff_ne.mpr c16
  have c16b1:(a1 != 47)=true:=bne_iff_ne.mpr c16
  have hc16:=hid c16
  clear c16
  replace H:=Ia H
  obtain ⟨t3,A27_,H⟩:=H
  have A27:=hid A27_
  clear A27_
  cases t3 with
  |true=>
   rw [if_pos rfl] at H
   simp only [Option.some.injEq,Prod.mk.injEq] at H
   obtain ⟨rfl,rfl,rfl,rfl⟩:=H
   go_enter Tryz.func70,Tryz.ntmps70
   have k29:=True.intro
   go_wp2_with (first
    |(go_at_call 88;clear k29;refine (Qp.c s0 s1 s2 LN_s0.out true g _ BKr.out A27.out).mono ?_;rintro e_ w' ⟨rfl,rfl⟩))
   (try simp only [Act.put,sI,sZ,sS])
   go_ret
   exact ⟨by first|rfl|(simp;done)|(simp [*];done),LN_s0.out,(by exact BKr.out),HL.out⟩
  |false=>
   rw [if_neg (show ¬ (false=true) by decide)] at H
   by_cases c30:a1≥49
   ·
    rw [if_pos c30] at H
    have c30b0:decide (49≤a1)=true:=decide_eq_true c30
    have hc30:=hid c30
    clear c30
    by_cases c31:a1≤56
    ·
     rw [if_pos c31] at H
     have c31b0:decide (a1≤56)=true:=decide_eq_true c31
     have hc31:=hid c31
     clear c31
     replace H:=Ia H
     obtain ⟨⟨t4,t5,t6,t7⟩,A32_,H⟩:=H
     dsimp only at H
     have A32:=hid A32_
     clear A32_
     simp only [Option.some.injEq,Prod.mk.injEq] at H
     obtain ⟨rfl,rfl,rfl,rfl⟩:=H
     go_enter Tryz.func70,Tryz.ntmps70
     have k33:=True.intro
     have k34:=True.intro
     go_wp2_with (first
      |(go_at_call 88;clear k33;refine (Qp.c s0 s1 s2 LN_s0.out false g _ BKr.out A27.out).mono ?_;rintro e_ w' ⟨rfl,rfl⟩)
      |(go_at_call 89;clear k34;refine (JF.c s0 s1 s2 (wrap64 (wrap32 (a1-48))) LN_s0.out t4 t5 t6 t7 g _ BKr.out A32.out).mono ?_;rintro e_ w35 ⟨rfl,ln_t5,hB_,hx_⟩;have LN_t5:=hid ln_t5;clear ln_t5;replace HL:=hid (HL.out.bex hx_ HL.out.size (.inl rfl));replace BKr:=hid hB_;clear hx_ hB_))
     (try simp only [Act.put,sI,sZ,sS])
     go_ret
     exact ⟨by first|rfl|(simp;done)|(simp [*];done),LN_t5.out,(by exact BKr.out),HL.out⟩
    ·
     rw [if_neg c31] at H
     have c31b0:decide (a1≤56)=false:=decide_eq_false c31
     have hc31:=hid c31
     clear c31
     replace H:=Ia H
     obtain ⟨⟨t8,t9,t10,t11⟩,A36_,H⟩:=H
     dsimp only at H
     have A36:=hid A36_
     clear A36_
     simp only [Option.some.injEq,Prod.mk.injEq] at H
     obtain ⟨rfl,rfl,rfl,rfl⟩:=H
     go_enter Tryz.func70,Tryz.ntmps70
     have k37:=True.intro
     have k38:=True.intro
     go_wp2_with (first
      |(go_at_call 88;clear k37;refine (Qp.c s0 s1 s2 LN_s0.out false g _ BKr.out A27.out).mono ?_;rintro e_ w' ⟨rfl,rfl⟩)
      |(go_at_call 90;clear k38;refine (QP.c s0 s1 s2 a1 LN_s0.out t8 t9 t10 t11 g _ BKr.out A36.out).mono ?_;rintro e_ w39 ⟨rfl,ln_t9,hB_,hx_⟩;have LN_t9:=hid ln_t9;clear ln_t9;replace HL:=hid (HL.out.bex hx_ HL.out.size (.inl rfl));replace BKr:=hid hB_;clear hx_ hB_))
     (try simp only [Act.put,sI,sZ,sS])
     go_ret
     exact ⟨by first|rfl|(simp;done)|(simp [*];done),LN_t9.out,(by exact BKr.out),HL.out⟩
   ·
    rw [if_neg c30] at H
    have c30b0:decide (49≤a1)=false:=decide_eq_false c30
    have hc30:=hid c30
    clear c30
    replace H:=Ia H
    obtain ⟨⟨t12,t13,t14,t15⟩,A40_,H⟩:=H
    dsimp only at H
    have A40:=hid A40_
    clear A40_
    simp only [Option.some.injEq,Prod.mk.injEq] at H
    obtain ⟨rfl,rfl,rfl,rfl⟩:=H
    go_enter Tryz.func70,Tryz.ntmps70
    have k41:=True.intro
    have k42:=True.intro
    go_wp2_with (first
     |(go_at_call 88;clear k41;refine (Qp.c s0 s1 s2 LN_s0.out false g _ BKr.out A27.out).mono ?_;rintro e_ w' ⟨rfl,rfl⟩)
     |(go_at_call 90;clear k42;refine (QP.c s0 s1 s2 a1 LN_s0.out t12 t13 t14 t15 g _ BKr.out A40.out).mono ?_;rintro e_ w43 ⟨rfl,ln_t13,hB_,hx_⟩;have LN_t13:=hid ln_t13;clear ln_t13;replace HL:=hid (HL.out.bex hx_ HL.out.size (.inl rfl));replace BKr:=hid hB_;clear hx_ hB_))
    (try simp only [Act.put,sI,sZ,sS])
    go_ret
    exact ⟨by first|rfl|(simp;done)|(simp [*];done),LN_t13.out,(by exact BKr.out),HL.out⟩
end Go.Proofs.YtaipghemddjecaaGreatDoor
