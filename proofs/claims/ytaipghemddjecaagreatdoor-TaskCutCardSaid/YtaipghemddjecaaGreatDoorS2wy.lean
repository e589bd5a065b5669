import Derived.Test.YtaipghemddjecaaGreatDoorMiy
import Derived.Test.YtaipghemddjecaaGreatDoorProg
import Derived.Test.YtaipghemddjecaaGreatDoorL1wy
import Derived.Test.YtaipghemddjecaaGreatDoorL2wy
import Derived.Test.YtaipghemddjecaaGreatDoorRgy
namespace Go.Proofs.YtaipghemddjecaaGreatDoor
set_option maxHeartbeats 40000000
set_option maxRecDepth 100000
open Go.RowKit
set_option linter.unusedVariables false
set_option linter.unusedSimpArgs false
theorem Qv(g:Nat)(w:World):(Instr.fieldAt 28 (Pg g 0) 0).run Tryz.prog w=.ok (Pg g 0) w:=by kernel_rfl
theorem Jd(g:Nat)(w:World):(Instr.fieldAt 28 (Pg g 0) 2).run Tryz.prog w=.ok (Pg g 2) w:=by kernel_rfl
theorem ZD(g:Nat)(w:World):(Instr.fieldAt 28 (Pg g 0) 1).run Tryz.prog w=.ok (Pg g 1) w:=by kernel_rfl
theorem Xk(g:Nat)(w:World):(Instr.fieldAt 28 (Pg g 0) 3).run Tryz.prog w=.ok (Pg g 3) w:=by kernel_rfl
theorem sT4:ScT Tryz.prog 4:=⟨fun w=>by kernel_rfl,fun w=>by kernel_rfl⟩
theorem Qcn(w:World):(isAgg 28).run Tryz.prog w=.ok true w:=by kernel_rfl
theorem QaL(w:World):(sizeOf 28).run Tryz.prog w=.ok 4 w:=by kernel_rfl
theorem QaM(w:World):(zeroValue 28).run Tryz.prog w=.ok (.agg #[Ii 0,Ii 0,Ii 0,.bool false]) w:=by kernel_rfl
theorem Zp:AggT Tryz.prog 28 4 #[Ii 0,Ii 0,Ii 0,.bool false]:=⟨Qcn,QaL,QaM,by first|rfl|decide⟩
def Jk.f(a0_0 a0_1 a0_2:Int)(a0_3:Bool):Option (Bool):=if a0_0<1 then (some false) else (if a0_0>8 then (some false) else (if a0_2>64 then (some false) else (if a0_2<0 then (some false) else (if a0_0=8 then (if a0_1=0 then (if a0_3=true then (some false) else (some (decide (a0_2>0)))) else (some false)) else (if a0_1<1 then (some false) else (if a0_1>2 then (some false) else (if a0_0=5 then (if a0_2>0 then (some true) else (some a0_3)) else (if a0_2>0 then (some (!a0_3)) else (some false)))))))))
theorem Jk.c(a0_0 a0_1 a0_2:Int)(a0_3 r1:Bool)(w:World)(h:Jk.f a0_0 a0_1 a0_2 a0_3=some r1):
 Calls Tryz.prog 30 #[.agg #[Ii a0_0,Ii a0_1,Ii a0_2,.bool a0_3]] w fun e w'=>e=.returned (.bool r1)∧Below w.heap.size w w':=by
 have HL:=hid (Below.refl w.heap.size w)
 have H:(if a0_0<1 then (some false) else (if a0_0>8 then (some false) else (if a0_2>64 then (some false) else (if a0_2<0 then (some false) else (if a0_0=8 then (if a0_1=0 then (if a0_3=true then (some false) else (some (decide (a0_2>0)))) else (some false)) else (if a0_1<1 then (some false) else (if a0_1>2 then (some false) else (if a0_0=5 then (if a0_2>0 then (some true) else (some a0_3)) else (if a0_2>0 then (some (!a0_3)) else (some false))))))))))=some r1:=h
 clear h
 by_cases c2:a0_0<1
 ·
  rw [if_pos c2] at H
  have c2b0:decide (a0_0<1)=true:=decide_eq_true c2
  have hc2:=hid c2
  clear c2
  obtain rfl:=Option.some.inj H
  clear H
  go_enter Tryz.func30,Tryz.ntmps30
  go_wp2_with (first
   |((with_reducible refine Qa (N:=1) rfl ?_);obtain ⟨gb1,hgb1⟩:∃ g_,w.heap.size=g_:=⟨_,rfl⟩;refine Jx #[Ii a0_0,Ii a0_1,Ii a0_2,.bool a0_3] gb1 hgb1 rfl _ rfl rfl ?_;intro w3 hb_ hB_ hs_;have GEb1:Hid (w.heap.size≤gb1):=hid (by have:=HL.out.size;omega);replace HL:=hid (HL.out.trans (hb_.mono GEb1.out));have BKb1:=hid hB_;clear hb_ hB_ hs_ hgb1)
   |((with_reducible refine Qa (N:=4) rfl ?_);refine Qb (Pg gb1 0) (Qc 28 0 (Pg gb1 0) (Pg gb1 0) (Qv gb1) _ rfl rfl) rfl ?_)
   |((with_reducible refine Qa (N:=5) rfl ?_);refine Qb (Ii a0_0) (Qd sT3 gb1 (0) (Ii a0_0) (#[Ii a0_0,Ii a0_1,Ii a0_2,.bool a0_3]) BKb1.out rfl _ rfl rfl) rfl ?_))
  (try simp only [Act.put,sI,sZ,sS])
  go_ret
  exact ⟨by first|rfl|(simp;done)|(simp [*];done),HL.out⟩
 ·
  rw [if_neg c2] at H
  have c2b0:decide (a0_0<1)=false:=decide_eq_false c2
  have hc2:=hid c2
  clear c2
  by_cases c4:a0_0>8
  ·
   rw [if_pos c4] at H
   have c4b0:decide (8<a0_0)=true:=decide_eq_true c4
   have hc4:=hid c4
   clear c4
   obtain rfl:=Option.some.inj H
   clear H
   go_enter Tryz.func30,Tryz.ntmps30
   go_wp2_with (first
    |((with_reducible refine Qa (N:=1) rfl ?_);obtain ⟨gb1,hgb1⟩:∃ g_,w.heap.size=g_:=⟨_,rfl⟩;refine Jx #[Ii a0_0,Ii a0_1,Ii a0_2,.bool a0_3] gb1 hgb1 rfl _ rfl rfl ?_;intro w5 hb_ hB_ hs_;have GEb1:Hid (w.heap.size≤gb1):=hid (by have:=HL.out.size;omega);replace HL:=hid (HL.out.trans (hb_.mono GEb1.out));have BKb1:=hid hB_;clear hb_ hB_ hs_ hgb1)
    |((with_reducible refine Qa (N:=4) rfl ?_);refine Qb (Pg gb1 0) (Qc 28 0 (Pg gb1 0) (Pg gb1 0) (Qv gb1) _ rfl rfl) rfl ?_)
    |((with_reducible refine Qa (N:=5) rfl ?_);refine Qb (Ii a0_0) (Qd sT3 gb1 (0) (Ii a0_0) (#[Ii a0_0,Ii a0_1,Ii a0_2,.bool a0_3]) BKb1.out rfl _ rfl rfl) rfl ?_)
    |((with_reducible refine Qa (N:=8) rfl ?_);refine Qb (Pg gb1 0) (Qc 28 0 (Pg gb1 0) (Pg gb1 0) (Qv gb1) _ rfl rfl) rfl ?_)
    |((with_reducible refine Qa (N:=9) rfl ?_);refine Qb (Ii a0_0) (Qd sT3 gb1 (0) (Ii a0_0) (#[Ii a0_0,Ii a0_1,Ii a0_2,.bool a0_3]) BKb1.out rfl _ rfl rfl) rfl ?_))
   (try simp only [Act.put,sI,sZ,sS])
   go_ret
   exact ⟨by first|rfl|(simp;done)|(simp [*];done),HL.out⟩
  ·
   rw [if_neg c4] at H
   have c4b0:decide (8<a0_0)=false:=decide_eq_false c4
   have hc4:=hid c4
   clear c4
   by_cases c6:a0_2>64
   ·
    rw [if_pos c6] at H
    have c6b0:decide (64<a0_2)=true:=decide_eq_true c6
    have hc6:=hid c6
    clear c6
    obtain rfl:=Option.some.inj H
    clear H
    go_enter Tryz.func30,Tryz.ntmps30
    go_wp2_with (first
     |((with_reducible refine Qa (N:=1) rfl ?_);obtain ⟨gb1,hgb1⟩:∃ g_,w.heap.size=g_:=⟨_,rfl⟩;refine Jx #[Ii a0_0,Ii a0_1,Ii a0_2,.bool a0_3] gb1 hgb1 rfl _ rfl rfl ?_;intro w7 hb_ hB_ hs_;have GEb1:Hid (w.heap.size≤gb1):=hid (by have:=HL.out.size;omega);replace HL:=hid (HL.out.trans (hb_.mono GEb1.out));have BKb1:=hid hB_;clear hb_ hB_ hs_ hgb1)
     |((with_reducible refine Qa (N:=4) rfl ?_);refine Qb (Pg gb1 0) (Qc 28 0 (Pg gb1 0) (Pg gb1 0) (Qv gb1) _ rfl rfl) rfl ?_)
     |((with_reducible refine Qa (N:=5) rfl ?_);refine Qb (Ii a0_0) (Qd sT3 gb1 (0) (Ii a0_0) (#[Ii a0_0,Ii a0_1,Ii a0_2,.bool a0_3]) BKb1.out rfl _ rfl rfl) rfl ?_)
     |((with_reducible refine Qa (N:=8) rfl ?_);refine Qb (Pg gb1 0) (Qc 28 0 (Pg gb1 0) (Pg gb1 0) (Qv gb1) _ rfl rfl) rfl ?_)
     |((with_reducible refine Qa (N:=9) rfl ?_);refine Qb (Ii a0_0) (Qd sT3 gb1 (0) (Ii a0_0) (#[Ii a0_0,Ii a0_1,Ii a0_2,.bool a0_3]) BKb1.out rfl _ rfl rfl) rfl ?_)
     |((with_reducible refine Qa (N:=13) rfl ?_);refine Qb (Pg gb1 2) (Qc 28 2 (Pg gb1 0) (Pg gb1 2) (Jd gb1) _ rfl rfl) rfl ?_)
     |((with_reducible refine Qa (N:=14) rfl ?_);refine Qb (Ii a0_2) (Qd sT3 gb1 (2) (Ii a0_2) (#[Ii a0_0,Ii a0_1,Ii a0_2,.bool a0_3]) BKb1.out rfl _ rfl rfl) rfl ?_))
    (try simp only [Act.put,sI,sZ,sS])
    go_ret
    exact ⟨by first|rfl|(simp;done)|(simp [*];done),HL.out⟩
   ·
    rw [if_neg c6] at H
    have c6b0:decide (64<a0_2)=false:=decide_eq_false c6
    have hc6:=hid c6
    clear c6
    by_cases c8:a0_2<0
    ·
     rw [if_pos c8] at H
     have c8b0:decide (a0_2<0)=true:=decide_eq_true c8
     have hc8:=hid c8
     clear c8
     obtain rfl:=Option.some.inj H
     clear H
     go_enter Tryz.func30,Tryz.ntmps30
     go_wp2_with (first
      |((with_reducible refine Qa (N:=1) rfl ?_);obtain ⟨gb1,hgb1⟩:∃ g_,w.heap.size=g_:=⟨_,rfl⟩;refine Jx #[Ii a0_0,Ii a0_1,Ii a0_2,.bool a0_3] gb1 hgb1 rfl _ rfl rfl ?_;intro w9 hb_ hB_ hs_;have GEb1:Hid (w.heap.size≤gb1):=hid (by have:=HL.out.size;omega);replace HL:=hid (HL.out.trans (hb_.mono GEb1.out));have BKb1:=hid hB_;clear hb_ hB_ hs_ hgb1)
      |((with_reducible refine Qa (N:=4) rfl ?_);refine Qb (Pg gb1 0) (Qc 28 0 (Pg gb1 0) (Pg gb1 0) (Qv gb1) _ rfl rfl) rfl ?_)
      |((with_reducible refine Qa (N:=5) rfl ?_);refine Qb (Ii a0_0) (Qd sT3 gb1 (0) (Ii a0_0) (#[Ii a0_0,Ii a0_1,Ii a0_2,.bool a0_3]) BKb1.out rfl _ rfl rfl) rfl ?_)
      |((with_reducible refine Qa (N:=8) rfl ?_);refine Qb (Pg gb1 0) (Qc 28 0 (Pg gb1 0) (Pg gb1 0) (Qv gb1) _ rfl rfl) rfl ?_)
      |((with_reducible refine Qa (N:=9) rfl ?_);refine Qb (Ii a0_0) (Qd sT3 gb1 (0) (Ii a0_0) (#[Ii a0_0,Ii a0_1,Ii a0_2,.bool a0_3]) BKb1.out rfl _ rfl rfl) rfl ?_)
      |((with_reducible refine Qa (N:=13) rfl ?_);refine Qb (Pg gb1 2) (Qc 28 2 (Pg gb1 0) (Pg gb1 2) (Jd gb1) _ rfl rfl) rfl ?_)
      |((with_reducible refine Qa (N:=14) rfl ?_);refine Qb (Ii a0_2) (Qd sT3 gb1 (2) (Ii a0_2) (#[Ii a0_0,Ii a0_1,Ii a0_2,.bool a0_3]) BKb1.out rfl _ rfl rfl) rfl ?_)
      |((with_reducible refine Qa (N:=18) rfl ?_);refine Qb (Pg gb1 2) (Qc 28 2 (Pg gb1 0) (Pg gb1 2) (Jd gb1) _ rfl rfl) rfl ?_)
      |((with_reducible refine Qa (N:=19) rfl ?_);refine Qb (Ii a0_2) (Qd sT3 gb1 (2) (Ii a0_2) (#[Ii a0_0,Ii a0_1,Ii a0_2,.bool a0_3]) BKb1.out rfl _ rfl rfl) rfl ?_))
     (try simp only [Act.put,sI,sZ,sS])
     go_ret
     exact ⟨by first|rfl|(simp;done)|(simp [*];done),HL.out⟩
    ·
     rw [if_neg c8] at H
     have c8b0:decide (a0_2<0)=false:=decide_eq_false c8
     have hc8:=hid c8
     clear c8
     by_cases c10:a0_0=8
     ·
      rw [if_pos c10] at H
      have c10b0:(a0_0==8)=true:=beq_iff_eq.mpr c10
      have c10b1:(a0_0 != 8)=false:=bne_eq_false_iff_eq.mpr c10
      have hc10:=hid c10
      clear c10
      by_cases c11:a0_1=0
      ·
       rw [if_pos c11] at H
       have c11b0:(a0_1==0)=true:=beq_iff_eq.mpr c11
       have c11b1:(a0_1 != 0)=false:=bne_eq_false_iff_eq.mpr c11
       have hc11:=hid c11
       clear c11
       cases a0_3 with
       |true=>
        rw [if_pos rfl] at H
        obtain rfl:=Option.some.inj H
        clear H
        go_enter Tryz.func30,Tryz.ntmps30
        go_wp2_with (first
         |((with_reducible refine Qa (N:=1) rfl ?_);obtain ⟨gb1,hgb1⟩:∃ g_,w.heap.size=g_:=⟨_,rfl⟩;refine Jx #[Ii a0_0,Ii a0_1,Ii a0_2,.bool true] gb1 hgb1 rfl _ rfl rfl ?_;intro w13 hb_ hB_ hs_;have GEb1:Hid (w.heap.size≤gb1):=hid (by have:=HL.out.size;omega);replace HL:=hid (HL.out.trans (hb_.mono GEb1.out));have BKb1:=hid hB_;clear hb_ hB_ hs_ hgb1)
         |((with_reducible refine Qa (N:=4) rfl ?_);refine Qb (Pg gb1 0) (Qc 28 0 (Pg gb1 0) (Pg gb1 0) (Qv gb1) _ rfl rfl) rfl ?_)
         |((with_reducible refine Qa (N:=5) rfl ?_);refine Qb (Ii a0_0) (Qd sT3 gb1 (0) (Ii a0_0) (#[Ii a0_0,Ii a0_1,Ii a0_2,.bool true]) BKb1.out rfl _ rfl rfl) rfl ?_)
         |((with_reducible refine Qa (N:=8) rfl ?_);refine Qb (Pg gb1 0) (Qc 28 0 (Pg gb1 0) (Pg gb1 0) (Qv gb1) _ rfl rfl) rfl ?_)
         |((with_reducible refine Qa (N:=9) rfl ?_);refine Qb (Ii a0_0) (Qd sT3 gb1 (0) (Ii a0_0) (#[Ii a0_0,Ii a0_1,Ii a0_2,.bool true]) BKb1.out rfl _ rfl rfl) rfl ?_)
         |((with_reducible refine Qa (N:=13) rfl ?_);refine Qb (Pg gb1 2) (Qc 28 2 (Pg gb1 0) (Pg gb1 2) (Jd gb1) _ rfl rfl) rfl ?_)
         |((with_reducible refine Qa (N:=14) rfl ?_);refine Qb (Ii a0_2) (Qd sT3 gb1 (2) (Ii a0_2) (#[Ii a0_0,Ii a0_1,Ii a0_2,.bool true]) BKb1.out rfl _ rfl rfl) rfl ?_)
         |((with_reducible refine Qa (N:=18) rfl ?_);refine Qb (Pg gb1 2) (Qc 28 2 (Pg gb1 0) (Pg gb1 2) (Jd gb1) _ rfl rfl) rfl ?_)
         |((with_reducible refine Qa (N:=19) rfl ?_);refine Qb (Ii a0_2) (Qd sT3 gb1 (2) (Ii a0_2) (#[Ii a0_0,Ii a0_1,Ii a0_2,.bool true]) BKb1.out rfl _ rfl rfl) rfl ?_)
         |((with_reducible refine Qa (N:=23) rfl ?_);refine Qb (Pg gb1 0) (Qc 28 0 (Pg gb1 0) (Pg gb1 0) (Qv gb1) _ rfl rfl) rfl ?_)
         |((with_reducible refine Qa (N:=24) rfl ?_);refine Qb (Ii a0_0) (Qd sT3 gb1 (0) (Ii a0_0) (#[Ii a0_0,Ii a0_1,Ii a0_2,.bool true]) BKb1.out rfl _ rfl rfl) rfl ?_)
         |((with_reducible refine Qa (N:=26) rfl ?_);refine Qb (Pg gb1 1) (Qc 28 1 (Pg gb1 0) (Pg gb1 1) (ZD gb1) _ rfl rfl) rfl ?_)
         |((with_reducible refine Qa (N:=27) rfl ?_);refine Qb (Ii a0_1) (Qd sT3 gb1 (1) (Ii a0_1) (#[Ii a0_0,Ii a0_1,Ii a0_2,.bool true]) BKb1.out rfl _ rfl rfl) rfl ?_)
         |((with_reducible refine Qa (N:=30) rfl ?_);refine Qb (Pg gb1 3) (Qc 28 3 (Pg gb1 0) (Pg gb1 3) (Xk gb1) _ rfl rfl) rfl ?_)
         |((with_reducible refine Qa (N:=31) rfl ?_);refine Qb (.bool true) (Qd sT4 gb1 (3) (.bool true) (#[Ii a0_0,Ii a0_1,Ii a0_2,.bool true]) BKb1.out rfl _ rfl rfl) rfl ?_))
        (try simp only [Act.put,sI,sZ,sS])
        go_ret
        exact ⟨by first|rfl|(simp;done)|(simp [*];done),HL.out⟩
       |false=>
        rw [if_neg (show ¬ (false=true) by decide)] at H
        obtain rfl:=Option.some.inj H
        clear H
        go_enter Tryz.func30,Tryz.ntmps30
        go_wp2_with (first
         |((with_reducible refine Qa (N:=1) rfl ?_);obtain ⟨gb1,hgb1⟩:∃ g_,w.heap.size=g_:=⟨_,rfl⟩;refine Jx #[Ii a0_0,Ii a0_1,Ii a0_2,.bool false] gb1 hgb1 rfl _ rfl rfl ?_;intro w14 hb_ hB_ hs_;have GEb1:Hid (w.heap.size≤gb1):=hid (by have:=HL.out.size;omega);replace HL:=hid (HL.out.trans (hb_.mono GEb1.out));have BKb1:=hid hB_;clear hb_ hB_ hs_ hgb1)
         |((with_reducible refine Qa (N:=4) rfl ?_);refine Qb (Pg gb1 0) (Qc 28 0 (Pg gb1 0) (Pg gb1 0) (Qv gb1) _ rfl rfl) rfl ?_)
         |((with_reducible refine Qa (N:=5) rfl ?_);refine Qb (Ii a0_0) (Qd sT3 gb1 (0) (Ii a0_0) (#[Ii a0_0,Ii a0_1,Ii a0_2,.bool false]) BKb1.out rfl _ rfl rfl) rfl ?_)
         |((with_reducible refine Qa (N:=8) rfl ?_);refine Qb (Pg gb1 0) (Qc 28 0 (Pg gb1 0) (Pg gb1 0) (Qv gb1) _ rfl rfl) rfl ?_)
         |((with_reducible refine Qa (N:=9) rfl ?_);refine Qb (Ii a0_0) (Qd sT3 gb1 (0) (Ii a0_0) (#[Ii a0_0,Ii a0_1,Ii a0_2,.bool false]) BKb1.out rfl _ rfl rfl) rfl ?_)
         |((with_reducible refine Qa (N:=13) rfl ?_);refine Qb (Pg gb1 2) (Qc 28 2 (Pg gb1 0) (Pg gb1 2) (Jd gb1) _ rfl rfl) rfl ?_)
         |((with_reducible refine Qa (N:=14) rfl ?_);refine Qb (Ii a0_2) (Qd sT3 gb1 (2) (Ii a0_2) (#[Ii a0_0,Ii a0_1,Ii a0_2,.bool false]) BKb1.out rfl _ rfl rfl) rfl ?_)
         |((with_reducible refine Qa (N:=18) rfl ?_);refine Qb (Pg gb1 2) (Qc 28 2 (Pg gb1 0) (Pg gb1 2) (Jd gb1) _ rfl rfl) rfl ?_)
         |((with_reducible refine Qa (N:=19) rfl ?_);refine Qb (Ii a0_2) (Qd sT3 gb1 (2) (Ii a0_2) (#[Ii a0_0,Ii a0_1,Ii a0_2,.bool false]) BKb1.out rfl _ rfl rfl) rfl ?_)
         |((with_reducible refine Qa (N:=23) rfl ?_);refine Qb (Pg gb1 0) (Qc 28 0 (Pg gb1 0) (Pg gb1 0) (Qv gb1) _ rfl rfl) rfl ?_)
         |((with_reducible refine Qa (N:=24) rfl ?_);refine Qb (Ii a0_0) (Qd sT3 gb1 (0) (Ii a0_0) (#[Ii a0_0,Ii a0_1,Ii a0_2,.bool false]) BKb1.out rfl _ rfl rfl) rfl ?_)
         |((with_reducible refine Qa (N:=26) rfl ?_);refine Qb (Pg gb1 1) (Qc 28 1 (Pg gb1 0) (Pg gb1 1) (ZD gb1) _ rfl rfl) rfl ?_)
         |((with_reducible refine Qa (N:=27) rfl ?_);refine Qb (Ii a0_1) (Qd sT3 gb1 (1) (Ii a0_1) (#[Ii a0_0,Ii a0_1,Ii a0_2,.bool false]) BKb1.out rfl _ rfl rfl) rfl ?_)
         |((with_reducible refine Qa (N:=30) rfl ?_);refine Qb (Pg gb1 3) (Qc 28 3 (Pg gb1 0) (Pg gb1 3) (Xk gb1) _ rfl rfl) rfl ?_)
         |((with_reducible refine Qa (N:=31) rfl ?_);refine Qb (.bool false) (Qd sT4 gb1 (3) (.bool false) (#[Ii a0_0,Ii a0_1,Ii a0_2,.bool false]) BKb1.out rfl _ rfl rfl) rfl ?_)
         |((with_reducible refine Qa (N:=35) rfl ?_);refine Qb (Pg gb1 2) (Qc 28 2 (Pg gb1 0) (Pg gb1 2) (Jd gb1) _ rfl rfl) rfl ?_)
         |((with_reducible refine Qa (N:=36) rfl ?_);refine Qb (Ii a0_2) (Qd sT3 gb1 (2) (Ii a0_2) (#[Ii a0_0,Ii a0_1,Ii a0_2,.bool false]) BKb1.out rfl _ rfl rfl) rfl ?_))
        (try simp only [Act.put,sI,sZ,sS])
        go_ret
        exact ⟨by first|rfl|(simp;done)|(simp [*];done),HL.out⟩
      ·
       rw [if_neg c11] at H
       have c11b0:(a0_1==0)=false:=beq_eq_false_iff_ne.mpr c11
       have c11b1:(a0_1 != 0)=true:=bne_iff_ne.mpr c11
       have hc11:=hid c11
       clear c11
       obtain rfl:=Option.some.inj H
       clear H
       go_enter Tryz.func30,Tryz.ntmps30
       go_wp2_with (first
        |((with_reducible refine Qa (N:=1) rfl ?_);obtain ⟨gb1,hgb1⟩:∃ g_,w.heap.size=g_:=⟨_,rfl⟩;refine Jx #[Ii a0_0,Ii a0_1,Ii a0_2,.bool a0_3] gb1 hgb1 rfl _ rfl rfl ?_;intro w15 hb_ hB_ hs_;have GEb1:Hid (w.heap.size≤gb1):=hid (by have:=HL.out.size;omega);replace HL:=hid (HL.out.trans (hb_.mono GEb1.out));have BKb1:=hid hB_;clear hb_ hB_ hs_ hgb1)
        |((with_reducible refine Qa (N:=4) rfl ?_);refine Qb (Pg gb1 0) (Qc 28 0 (Pg gb1 0) (Pg gb1 0) (Qv gb1) _ rfl rfl) rfl ?_)
        |((with_reducible refine Qa (N:=5) rfl ?_);refine Qb (Ii a0_0) (Qd sT3 gb1 (0) (Ii a0_0) (#[Ii a0_0,Ii a0_1,Ii a0_2,.bool a0_3]) BKb1.out rfl _ rfl rfl) rfl ?_)
        |((with_reducible refine Qa (N:=8) rfl ?_);refine Qb (Pg gb1 0) (Qc 28 0 (Pg gb1 0) (Pg gb1 0) (Qv gb1) _ rfl rfl) rfl ?_)
        |((with_reducible refine Qa (N:=9) rfl ?_);refine Qb (Ii a0_0) (Qd sT3 gb1 (0) (Ii a0_0) (#[Ii a0_0,Ii a0_1,Ii a0_2,.bool a0_3]) BKb1.out rfl _ rfl rfl) rfl ?_)
        |((with_reducible refine Qa (N:=13) rfl ?_);refine Qb (Pg gb1 2) (Qc 28 2 (Pg gb1 0) (Pg gb1 2) (Jd gb1) _ rfl rfl) rfl ?_)
        |((with_reducible refine Qa (N:=14) rfl ?_);refine Qb (Ii a0_2) (Qd sT3 gb1 (2) (Ii a0_2) (#[Ii a0_0,Ii a0_1,Ii a0_2,.bool a0_3]) BKb1.out rfl _ rfl rfl) rfl ?_)
        |((with_reducible refine Qa (N:=18) rfl ?_);refine Qb (Pg gb1 2) (Qc 28 2 (Pg gb1 0) (Pg gb1 2) (Jd gb1) _ rfl rfl) rfl ?_)
        |((with_reducible refine Qa (N:=19) rfl ?_);refine Qb (Ii a0_2) (Qd sT3 gb1 (2) (Ii a0_2) (#[Ii a0_0,Ii a0_1,Ii a0_2,.bool a0_3]) BKb1.out rfl _ rfl rfl) rfl ?_)
        |((with_reducible refine Qa (N:=23) rfl ?_);refine Qb (Pg gb1 0) (Qc 28 0 (Pg gb1 0) (Pg gb1 0) (Qv gb1) _ rfl rfl) rfl ?_)
        |((with_reducible refine Qa (N:=24) rfl ?_);refine Qb (Ii a0_0) (Qd sT3 gb1 (0) (Ii a0_0) (#[Ii a0_0,Ii a0_1,Ii a0_2,.bool a0_3]) BKb1.out rfl _ rfl rfl) rfl ?_)
        |((with_reducible refine Qa (N:=26) rfl ?_);refine Qb (Pg gb1 1) (Qc 28 1 (Pg gb1 0) (Pg gb1 1) (ZD gb1) _ rfl rfl) rfl ?_)
        |((with_reducible refine Qa (N:=27) rfl ?_);refine Qb (Ii a0_1) (Qd sT3 gb1 (1) (Ii a0_1) (#[Ii a0_0,Ii a0_1,Ii a0_2,.bool a0_3]) BKb1.out rfl _ rfl rfl) rfl ?_))
       (try simp only [Act.put,sI,sZ,sS])
       go_ret
       exact ⟨by first|rfl|(simp;done)|(simp [*];done),HL.out⟩
     ·
      rw [if_neg c10] at H
      have c10b0:(a0_0==8)=false:=beq_eq_false_iff_ne.mpr c10
      have c10b1:(a0_0 != 8)=true:=bne_iff_ne.mpr c10
      have hc10:=hid c10
      clear c10
      by_cases c16:a0_1<1
      ·
       rw [if_pos c16] at H
       have c16b0:decide (a0_1<1)=true:=decide_eq_true c16
       have hc16:=hid c16
       clear c16
       obtain rfl:=Option.some.inj H
       clear H
       go_enter Tryz.func30,Tryz.ntmps30
       go_wp2_with (first
        |((with_reducible refine Qa (N:=1) rfl ?_);obtain ⟨gb1,hgb1⟩:∃ g_,w.heap.size=g_:=⟨_,rfl⟩;refine Jx #[Ii a0_0,Ii a0_1,Ii a0_2,.bool a0_3] gb1 hgb1 rfl _ rfl rfl ?_;intro w17 hb_ hB_ hs_;have GEb1:Hid (w.heap.size≤gb1):=hid (by have:=HL.out.size;omega);replace HL:=hid (HL.out.trans (hb_.mono GEb1.out));have BKb1:=hid hB_;clear hb_ hB_ hs_ hgb1)
        |((with_reducible refine Qa (N:=4) rfl ?_);refine Qb (Pg gb1 0) (Qc 28 0 (Pg gb1 0) (Pg gb1 0) (Qv gb1) _ rfl rfl) rfl ?_)
        |((with_reducible refine Qa (N:=5) rfl ?_);refine Qb (Ii a0_0) (Qd sT3 gb1 (0) (Ii a0_0) (#[Ii a0_0,Ii a0_1,Ii a0_2,.bool a0_3]) BKb1.out rfl _ rfl rfl) rfl ?_)
        |((with_reducible refine Qa (N:=8) rfl ?_);refine Qb (Pg gb1 0) (Qc 28 0 (Pg gb1 0) (Pg gb1 0) (Qv gb1) _ rfl rfl) rfl ?_)
        |((with_reducible refine Qa (N:=9) rfl ?_);refine Qb (Ii a0_0) (Qd sT3 gb1 (0) (Ii a0_0) (#[Ii a0_0,Ii a0_1,Ii a0_2,.bool a0_3]) BKb1.out rfl _ rfl rfl) rfl ?_)
        |((with_reducible refine Qa (N:=13) rfl ?_);refine Qb (Pg gb1 2) (Qc 28 2 (Pg gb1 0) (Pg gb1 2) (Jd gb1) _ rfl rfl) rfl ?_)
        |((with_reducible refine Qa (N:=14) rfl ?_);refine Qb (Ii a0_2) (Qd sT3 gb1 (2) (Ii a0_2) (#[Ii a0_0,Ii a0_1,Ii a0_2,.bool a0_3]) BKb1.out rfl _ rfl rfl) rfl ?_)
        |((with_reducible refine Qa (N:=18) rfl ?_);refine Qb (Pg gb1 2) (Qc 28 2 (Pg gb1 0) (Pg gb1 2) (Jd gb1) _ rfl rfl) rfl ?_)
        |((with_reducible refine Qa (N:=19) rfl ?_);refine Qb (Ii a0_2) (Qd sT3 gb1 (2) (Ii a0_2) (#[Ii a0_0,Ii a0_1,Ii a0_2,.bool a0_3]) BKb1.out rfl _ rfl rfl) rfl ?_)
        |((with_reducible refine Qa (N:=23) rfl ?_);refine Qb (Pg gb1 0) (Qc 28 0 (Pg gb1 0) (Pg gb1 0) (Qv gb1) _ rfl rfl) rfl ?_)
        |((with_reducible refine Qa (N:=24) rfl ?_);refine Qb (Ii a0_0) (Qd sT3 gb1 (0) (Ii a0_0) (#[Ii a0_0,Ii a0_1,Ii a0_2,.bool a0_3]) BKb1.out rfl _ rfl rfl) rfl ?_)
        |((with_reducible refine Qa (N:=40) rfl ?_);refine Qb (Pg gb1 1) (Qc 28 1 (Pg gb1 0) (Pg gb1 1) (ZD gb1) _ rfl rfl) rfl ?_)
        |((with_reducible refine Qa (N:=41) rfl ?_);refine Qb (Ii a0_1) (Qd sT3 gb1 (1) (Ii a0_1) (#[Ii a0_0,Ii a0_1,Ii a0_2,.bool a0_3]) BKb1.out rfl _ rfl rfl) rfl ?_))
       (try simp only [Act.put,sI,sZ,sS])
       go_ret
       exact ⟨by first|rfl|(simp;done)|(simp [*];done),HL.out⟩
      ·
       rw [if_neg c16] at H
       have c16b0:decide (a0_1<1)=false:=decide_eq_false c16
       have hc16:=hid c16
       clear c16
       by_cases c18:a0_1>2
       ·
        rw [if_pos c18] at H
        have c18b0:decide (2<a0_1)=true:=decide_eq_true c18
        have hc18:=hid c18
        clear c18
        obtain rfl:=Option.some.inj H
        clear H
        go_enter Tryz.func30,Tryz.ntmps30
        go_wp2_with (first
         |((with_reducible refine Qa (N:=1) rfl ?_);obtain ⟨gb1,hgb1⟩:∃ g_,w.heap.size=g_:=⟨_,rfl⟩;refine Jx #[Ii a0_0,Ii a0_1,Ii a0_2,.bool a0_3] gb1 hgb1 rfl _ rfl rfl ?_;intro w19 hb_ hB_ hs_;have GEb1:Hid (w.heap.size≤gb1):=hid (by have:=HL.out.size;omega);replace HL:=hid (HL.out.trans (hb_.mono GEb1.out));have BKb1:=hid hB_;clear hb_ hB_ hs_ hgb1)
         |((with_reducible refine Qa (N:=4) rfl ?_);refine Qb (Pg gb1 0) (Qc 28 0 (Pg gb1 0) (Pg gb1 0) (Qv gb1) _ rfl rfl) rfl ?_)
         |((with_reducible refine Qa (N:=5) rfl ?_);refine Qb (Ii a0_0) (Qd sT3 gb1 (0) (Ii a0_0) (#[Ii a0_0,Ii a0_1,Ii a0_2,.bool a0_3]) BKb1.out rfl _ rfl rfl) rfl ?_)
         |((with_reducible refine Qa (N:=8) rfl ?_);refine Qb (Pg gb1 0) (Qc 28 0 (Pg gb1 0) (Pg gb1 0) (Qv gb1) _ rfl rfl) rfl ?_)
         |((with_reducible refine Qa (N:=9) rfl ?_);refine Qb (Ii a0_0) (Qd sT3 gb1 (0) (Ii a0_0) (#[Ii a0_0,Ii a0_1,Ii a0_2,.bool a0_3]) BKb1.out rfl _ rfl rfl) rfl ?_)
         |((with_reducible refine Qa (N:=13) rfl ?_);refine Qb (Pg gb1 2) (Qc 28 2 (Pg gb1 0) (Pg gb1 2) (Jd gb1) _ rfl rfl) rfl ?_)
         |((with_reducible refine Qa (N:=14) rfl ?_);refine Qb (Ii a0_2) (Qd sT3 gb1 (2) (Ii a0_2) (#[Ii a0_0,Ii a0_1,Ii a0_2,.bool a0_3]) BKb1.out rfl _ rfl rfl) rfl ?_)
         |((with_reducible refine Qa (N:=18) rfl ?_);refine Qb (Pg gb1 2) (Qc 28 2 (Pg gb1 0) (Pg gb1 2) (Jd gb1) _ rfl rfl) rfl ?_)
         |((with_reducible refine Qa (N:=19) rfl ?_);refine Qb (Ii a0_2) (Qd sT3 gb1 (2) (Ii a0_2) (#[Ii a0_0,Ii a0_1,Ii a0_2,.bool a0_3]) BKb1.out rfl _ rfl rfl) rfl ?_)
         |((with_reducible refine Qa (N:=23) rfl ?_);refine Qb (Pg gb1 0) (Qc 28 0 (Pg gb1 0) (Pg gb1 0) (Qv gb1) _ rfl rfl) rfl ?_)
         |((with_reducible refine Qa (N:=24) rfl ?_);refine Qb (Ii a0_0) (Qd sT3 gb1 (0) (Ii a0_0) (#[Ii a0_0,Ii a0_1,Ii a0_2,.bool a0_3]) BKb1.out rfl _ rfl rfl) rfl ?_)
         |((with_reducible refine Qa (N:=40) rfl ?_);refine Qb (Pg gb1 1) (Qc 28 1 (Pg gb1 0) (Pg gb1 1) (ZD gb1) _ rfl rfl) rfl ?_)
         |((with_reducible refine Qa (N:=41) rfl ?_);refine Qb (Ii a0_1) (Qd sT3 gb1 (1) (Ii a0_1) (#[Ii a0_0,Ii a0_1,Ii a0_2,.bool a0_3]) BKb1.out rfl _ rfl rfl) rfl ?_)
         |((with_reducible refine Qa (N:=44) rfl ?_);refine Qb (Pg gb1 1) (Qc 28 1 (Pg gb1 0) (Pg gb1 1) (ZD gb1) _ rfl rfl) rfl ?_)
         |((with_reducible refine Qa (N:=45) rfl ?_);refine Qb (Ii a0_1) (Qd sT3 gb1 (1) (Ii a0_1) (#[Ii a0_0,Ii a0_1,Ii a0_2,.bool a0_3]) BKb1.out rfl _ rfl rfl) rfl ?_))
        (try simp only [Act.put,sI,sZ,sS])
        go_ret
        exact ⟨by first|rfl|(simp;done)|(simp [*];done),HL.out⟩
       ·
        rw [if_neg c18] at H
        have c18b0:decide (2<a0_1)=false:=decide_eq_false c18
        have hc18:=hid c18
        clear c18
        by_cases c20:a0_0=5
        ·
         rw [if_pos c20] at H
         have c20b0:(a0_0==5)=true:=beq_iff_eq.mpr c20
         have c20b1:(a0_0 != 5)=false:=bne_eq_false_iff_eq.mpr c20
         have hc20:=hid c20
         clear c20
         by_cases c21:a0_2>0
         ·
          rw [if_pos c21] at H
          have c21b0:decide (0<a0_2)=true:=decide_eq_true c21
          have hc21:=hid c21
          clear c21
          obtain rfl:=Option.some.inj H
          clear H
          go_enter Tryz.func30,Tryz.ntmps30
          go_wp2_with (first
           |((with_reducible refine Qa (N:=1) rfl ?_);obtain ⟨gb1,hgb1⟩:∃ g_,w.heap.size=g_:=⟨_,rfl⟩;refine Jx #[Ii a0_0,Ii a0_1,Ii a0_2,.bool a0_3] gb1 hgb1 rfl _ rfl rfl ?_;intro w22 hb_ hB_ hs_;have GEb1:Hid (w.heap.size≤gb1):=hid (by have:=HL.out.size;omega);replace HL:=hid (HL.out.trans (hb_.mono GEb1.out));have BKb1:=hid hB_;clear hb_ hB_ hs_ hgb1)
           |((with_reducible refine Qa (N:=4) rfl ?_);refine Qb (Pg gb1 0) (Qc 28 0 (Pg gb1 0) (Pg gb1 0) (Qv gb1) _ rfl rfl) rfl ?_)
           |((with_reducible refine Qa (N:=5) rfl ?_);refine Qb (Ii a0_0) (Qd sT3 gb1 (0) (Ii a0_0) (#[Ii a0_0,Ii a0_1,Ii a0_2,.bool a0_3]) BKb1.out rfl _ rfl rfl) rfl ?_)
           |((with_reducible refine Qa (N:=8) rfl ?_);refine Qb (Pg gb1 0) (Qc 28 0 (Pg gb1 0) (Pg gb1 0) (Qv gb1) _ rfl rfl) rfl ?_)
           |((with_reducible refine Qa (N:=9) rfl ?_);refine Qb (Ii a0_0) (Qd sT3 gb1 (0) (Ii a0_0) (#[Ii a0_0,Ii a0_1,Ii a0_2,.bool a0_3]) BKb1.out rfl _ rfl rfl) rfl ?_)
           |((with_reducible refine Qa (N:=13) rfl ?_);refine Qb (Pg gb1 2) (Qc 28 2 (Pg gb1 0) (Pg gb1 2) (Jd gb1) _ rfl rfl) rfl ?_)
           |((with_reducible refine Qa (N:=14) rfl ?_);refine Qb (Ii a0_2) (Qd sT3 gb1 (2) (Ii a0_2) (#[Ii a0_0,Ii a0_1,Ii a0_2,.bool a0_3]) BKb1.out rfl _ rfl rfl) rfl ?_)
           |((with_reducible refine Qa (N:=18) rfl ?_);refine Qb (Pg gb1 2) (Qc 28 2 (Pg gb1 0) (Pg gb1 2) (Jd gb1) _ rfl rfl) rfl ?_)
           |((with_reducible refine Qa (N:=19) rfl ?_);refine Qb (Ii a0_2) (Qd sT3 gb1 (2) (Ii a0_2) (#[Ii a0_0,Ii a0_1,Ii a0_2,.bool a0_3]) BKb1.out rfl _ rfl rfl) rfl ?_)
           |((with_reducible refine Qa (N:=23) rfl ?_);refine Qb (Pg gb1 0) (Qc 28 0 (Pg gb1 0) (Pg gb1 0) (Qv gb1) _ rfl rfl) rfl ?_)
           |((with_reducible refine Qa (N:=24) rfl ?_);refine Qb (Ii a0_0) (Qd sT3 gb1 (0) (Ii a0_0) (#[Ii a0_0,Ii a0_1,Ii a0_2,.bool a0_3]) BKb1.out rfl _ rfl rfl) rfl ?_)
           |((with_reducible refine Qa (N:=40) rfl ?_);refine Qb (Pg gb1 1) (Qc 28 1 (Pg gb1 0) (Pg gb1 1) (ZD gb1) _ rfl rfl) rfl ?_)
           |((with_reducible refine Qa (N:=41) rfl ?_);refine Qb (Ii a0_1) (Qd sT3 gb1 (1) (Ii a0_1) (#[Ii a0_0,Ii a0_1,Ii a0_2,.bool a0_3]) BKb1.out rfl _ rfl rfl) rfl ?_)
           |((with_reducible refine Qa (N:=44) rfl ?_);refine Qb (Pg gb1 1) (Qc 28 1 (Pg gb1 0) (Pg gb1 1) (ZD gb1) _ rfl rfl) rfl ?_)
           |((with_reducible refine Qa (N:=45) rfl ?_);refine Qb (Ii a0_1) (Qd sT3 gb1 (1) (Ii a0_1) (#[Ii a0_0,Ii a0_1,Ii a0_2,.bool a0_3]) BKb1.out rfl _ rfl rfl) rfl ?_)
           |((with_reducible refine Qa (N:=49) rfl ?_);refine Qb (Pg gb1 0) (Qc 28 0 (Pg gb1 0) (Pg gb1 0) (Qv gb1) _ rfl rfl) rfl ?_)
           |((with_reducible refine Qa (N:=50) rfl ?_);refine Qb (Ii a0_0) (Qd sT3 gb1 (0) (Ii a0_0) (#[Ii a0_0,Ii a0_1,Ii a0_2,.bool a0_3]) BKb1.out rfl _ rfl rfl) rfl ?_)
           |((with_reducible refine Qa (N:=52) rfl ?_);refine Qb (Pg gb1 2) (Qc 28 2 (Pg gb1 0) (Pg gb1 2) (Jd gb1) _ rfl rfl) rfl ?_)
           |((with_reducible refine Qa (N:=53) rfl ?_);refine Qb (Ii a0_2) (Qd sT3 gb1 (2) (Ii a0_2) (#[Ii a0_0,Ii a0_1,Ii a0_2,.bool a0_3]) BKb1.out rfl _ rfl rfl) rfl ?_))
          (try simp only [Act.put,sI,sZ,sS])
          go_ret
          exact ⟨by first|rfl|(simp;done)|(simp [*];done),HL.out⟩
         ·
          rw [if_neg c21] at H
          have c21b0:decide (0<a0_2)=false:=decide_eq_false c21
          have hc21:=hid c21
          clear c21
          obtain rfl:=Option.some.inj H
          clear H
          go_enter Tryz.func30,Tryz.ntmps30
          go_wp2_with (first
           |((with_reducible refine Qa (N:=1) rfl ?_);obtain ⟨gb1,hgb1⟩:∃ g_,w.heap.size=g_:=⟨_,rfl⟩;refine Jx #[Ii a0_0,Ii a0_1,Ii a0_2,.bool a0_3] gb1 hgb1 rfl _ rfl rfl ?_;intro w23 hb_ hB_ hs_;have GEb1:Hid (w.heap.size≤gb1):=hid (by have:=HL.out.size;omega);replace HL:=hid (HL.out.trans (hb_.mono GEb1.out));have BKb1:=hid hB_;clear hb_ hB_ hs_ hgb1)
           |((with_reducible refine Qa (N:=4) rfl ?_);refine Qb (Pg gb1 0) (Qc 28 0 (Pg gb1 0) (Pg gb1 0) (Qv gb1) _ rfl rfl) rfl ?_)
           |((with_reducible refine Qa (N:=5) rfl ?_);refine Qb (Ii a0_0) (Qd sT3 gb1 (0) (Ii a0_0) (#[Ii a0_0,Ii a0_1,Ii a0_2,.bool a0_3]) BKb1.out rfl _ rfl rfl) rfl ?_)
           |((with_reducible refine Qa (N:=8) rfl ?_);refine Qb (Pg gb1 0) (Qc 28 0 (Pg gb1 0) (Pg gb1 0) (Qv gb1) _ rfl rfl) rfl ?_)
           |((with_reducible refine Qa (N:=9) rfl ?_);refine Qb (Ii a0_0) (Qd sT3 gb1 (0) (Ii a0_0) (#[Ii a0_0,Ii a0_1,Ii a0_2,.bool a0_3]) BKb1.out rfl _ rfl rfl) rfl ?_)
           |((with_reducible refine Qa (N:=13) rfl ?_);refine Qb (Pg gb1 2) (Qc 28 2 (Pg gb1 0) (Pg gb1 2) (Jd gb1) _ rfl rfl) rfl ?_)
           |((with_reducible refine Qa (N:=14) rfl ?_);refine Qb (Ii a0_2) (Qd sT3 gb1 (2) (Ii a0_2) (#[Ii a0_0,Ii a0_1,Ii a0_2,.bool a0_3]) BKb1.out rfl _ rfl rfl) rfl ?_)
           |((with_reducible refine Qa (N:=18) rfl ?_);refine Qb (Pg gb1 2) (Qc 28 2 (Pg gb1 0) (Pg gb1 2) (Jd gb1) _ rfl rfl) rfl ?_)
           |((with_reducible refine Qa (N:=19) rfl ?_);refine Qb (Ii a0_2) (Qd sT3 gb1 (2) (Ii a0_2) (#[Ii a0_0,Ii a0_1,Ii a0_2,.bool a0_3]) BKb1.out rfl _ rfl rfl) rfl ?_)
           |((with_reducible refine Qa (N:=23) rfl ?_);refine Qb (Pg gb1 0) (Qc 28 0 (Pg gb1 0) (Pg gb1 0) (Qv gb1) _ rfl rfl) rfl ?_)
           |((with_reducible refine Qa (N:=24) rfl ?_);refine Qb (Ii a0_0) (Qd sT3 gb1 (0) (Ii a0_0) (#[Ii a0_0,Ii a0_1,Ii a0_2,.bool a0_3]) BKb1.out rfl _ rfl rfl) rfl ?_)
           |((with_reducible refine Qa (N:=40) rfl ?_);refine Qb (Pg gb1 1) (Qc 28 1 (Pg gb1 0) (Pg gb1 1) (ZD gb1) _ rfl rfl) rfl ?_)
           |((with_reducible refine Qa (N:=41) rfl ?_);refine Qb (Ii a0_1) (Qd sT3 gb1 (1) (Ii a0_1) (#[Ii a0_0,Ii a0_1,Ii a0_2,.bool a0_3]) BKb1.out rfl _ rfl rfl) rfl ?_)
           |((with_reducible refine Qa (N:=44) rfl ?_);refine Qb (Pg gb1 1) (Qc 28 1 (Pg gb1 0) (Pg gb1 1) (ZD gb1) _ rfl rfl) rfl ?_)
           |((with_reducible refine Qa (N:=45) rfl ?_);refine Qb (Ii a0_1) (Qd sT3 gb1 (1) (Ii a0_1) (#[Ii a0_0,Ii a0_1,Ii a0_2,.bool a0_3]) BKb1.out rfl _ rfl rfl) rfl ?_)
           |((with_reducible refine Qa (N:=49) rfl ?_);refine Qb (Pg gb1 0) (Qc 28 0 (Pg gb1 0) (Pg gb1 0) (Qv gb1) _ rfl rfl) rfl ?_)
           |((with_reducible refine Qa (N:=50) rfl ?_);refine Qb (Ii a0_0) (Qd sT3 gb1 (0) (Ii a0_0) (#[Ii a0_0,Ii a0_1,Ii a0_2,.bool a0_3]) BKb1.out rfl _ rfl rfl) rfl ?_)
           |((with_reducible refine Qa (N:=52) rfl ?_);refine Qb (Pg gb1 2) (Qc 28 2 (Pg gb1 0) (Pg gb1 2) (Jd gb1) _ rfl rfl) rfl ?_)
           |((with_reducible refine Qa (N:=53) rfl ?_);refine Qb (Ii a0_2) (Qd sT3 gb1 (2) (Ii a0_2) (#[Ii a0_0,Ii a0_1,Ii a0_2,.bool a0_3]) BKb1.out rfl _ rfl rfl) rfl ?_)
           |((with_reducible refine Qa (N:=56) rfl ?_);refine Qb (Pg gb1 3) (Qc 28 3 (Pg gb1 0) (Pg gb1 3) (Xk gb1) _ rfl rfl) rfl ?_)
           |((with_reducible refine Qa (N:=57) rfl ?_);refine Qb (.bool a0_3) (Qd sT4 gb1 (3) (.bool a0_3) (#[Ii a0_0,Ii a0_1,Ii a0_2,.bool a0_3]) BKb1.out rfl _ rfl rfl) rfl ?_))
          (try simp only [Act.put,sI,sZ,sS])
          go_ret
          exact ⟨by first|rfl|(simp;done)|(simp [*];done),HL.out⟩
        ·
         rw [if_neg c20] at H
         have c20b0:(a0_0==5)=false:=beq_eq_false_iff_ne.mpr c20
         have c20b1:(a0_0 != 5)=true:=bne_iff_ne.mpr c20
         have hc20:=hid c20
         clear c20
         by_cases c24:a0_2>0
         ·
          rw [if_pos c24] at H
          have c24b0:decide (0<a0_2)=true:=decide_eq_true c24
          have hc24:=hid c24
          clear c24
          obtain rfl:=Option.some.inj H
          clear H
          go_enter Tryz.func30,Tryz.ntmps30
          go_wp2_with (first
           |((with_reducible refine Qa (N:=1) rfl ?_);obtain ⟨gb1,hgb1⟩:∃ g_,w.heap.size=g_:=⟨_,rfl⟩;refine Jx #[Ii a0_0,Ii a0_1,Ii a0_2,.bool a0_3] gb1 hgb1 rfl _ rfl rfl ?_;intro w25 hb_ hB_ hs_;have GEb1:Hid (w.heap.size≤gb1):=hid (by have:=HL.out.size;omega);replace HL:=hid (HL.out.trans (hb_.mono GEb1.out));have BKb1:=hid hB_;clear hb_ hB_ hs_ hgb1)
           |((with_reducible refine Qa (N:=4) rfl ?_);refine Qb (Pg gb1 0) (Qc 28 0 (Pg gb1 0) (Pg gb1 0) (Qv gb1) _ rfl rfl) rfl ?_)
           |((with_reducible refine Qa (N:=5) rfl ?_);refine Qb (Ii a0_0) (Qd sT3 gb1 (0) (Ii a0_0) (#[Ii a0_0,Ii a0_1,Ii a0_2,.bool a0_3]) BKb1.out rfl _ rfl rfl) rfl ?_)
           |((with_reducible refine Qa (N:=8) rfl ?_);refine Qb (Pg gb1 0) (Qc 28 0 (Pg gb1 0) (Pg gb1 0) (Qv gb1) _ rfl rfl) rfl ?_)
           |((with_reducible refine Qa (N:=9) rfl ?_);refine Qb (Ii a0_0) (Qd sT3 gb1 (0) (Ii a0_0) (#[Ii a0_0,Ii a0_1,Ii a0_2,.bool a0_3]) BKb1.out rfl _ rfl rfl) rfl ?_)
           |((with_reducible refine Qa (N:=13) rfl ?_);refine Qb (Pg gb1 2) (Qc 28 2 (Pg gb1 0) (Pg gb1 2) (Jd gb1) _ rfl rfl) rfl ?_)
           |((with_reducible refine Qa (N:=14) rfl ?_);refine Qb (Ii a0_2) (Qd sT3 gb1 (2) (Ii a0_2) (#[Ii a0_0,Ii a0_1,Ii a0_2,.bool a0_3]) BKb1.out rfl _ rfl rfl) rfl ?_)
           |((with_reducible refine Qa (N:=18) rfl ?_);refine Qb (Pg gb1 2) (Qc 28 2 (Pg gb1 0) (Pg gb1 2) (Jd gb1) _ rfl rfl) rfl ?_)
           |((with_reducible refine Qa (N:=19) rfl ?_);refine Qb (Ii a0_2) (Qd sT3 gb1 (2) (Ii a0_2) (#[Ii a0_0,Ii a0_1,Ii a0_2,.bool a0_3]) BKb1.out rfl _ rfl rfl) rfl ?_)
           |((with_reducible refine Qa (N:=23) rfl ?_);refine Qb (Pg gb1 0) (Qc 28 0 (Pg gb1 0) (Pg gb1 0) (Qv gb1) _ rfl rfl) rfl ?_)
           |((with_reducible refine Qa (N:=24) rfl ?_);refine Qb (Ii a0_0) (Qd sT3 gb1 (0) (Ii a0_0) (#[Ii a0_0,Ii a0_1,Ii a0_2,.bool a0_3]) BKb1.out rfl _ rfl rfl) rfl ?_)
           |((with_reducible refine Qa (N:=40) rfl ?_);refine Qb (Pg gb1 1) (Qc 28 1 (Pg gb1 0) (Pg gb1 1) (ZD gb1) _ rfl rfl) rfl ?_)
           |((with_reducible refine Qa (N:=41) rfl ?_);refine Qb (Ii a0_1) (Qd sT3 gb1 (1) (Ii a0_1) (#[Ii a0_0,Ii a0_1,Ii a0_2,.bool a0_3]) BKb1.out rfl _ rfl rfl) rfl ?_)
           |((with_reducible refine Qa (N:=44) rfl ?_);refine Qb (Pg gb1 1) (Qc 28 1 (Pg gb1 0) (Pg gb1 1) (ZD gb1) _ rfl rfl) rfl ?_)
           |((with_reducible refine Qa (N:=45) rfl ?_);refine Qb (Ii a0_1) (Qd sT3 gb1 (1) (Ii a0_1) (#[Ii a0_0,Ii a0_1,Ii a0_2,.bool a0_3]) BKb1.out rfl _ rfl rfl) rfl ?_)
           |((with_reducible refine Qa (N:=49) rfl ?_);refine Qb (Pg gb1 0) (Qc 28 0 (Pg gb1 0) (Pg gb1 0) (Qv gb1) _ rfl rfl) rfl ?_)
           |((with_reducible refine Qa (N:=50) rfl ?_);refine Qb (Ii a0_0) (Qd sT3 gb1 (0) (Ii a0_0) (#[Ii a0_0,Ii a0_1,Ii a0_2,.bool a0_3]) BKb1.out rfl _ rfl rfl) rfl ?_)
           |((with_reducible refine Qa (N:=59) rfl ?_);refine Qb (Pg gb1 2) (Qc 28 2 (Pg gb1 0) (Pg gb1 2) (Jd gb1) _ rfl rfl) rfl ?_)
           |((with_reducible refine Qa (N:=60) rfl ?_);refine Qb (Ii a0_2) (Qd sT3 gb1 (2) (Ii a0_2) (#[Ii a0_0,Ii a0_1,Ii a0_2,.bool a0_3]) BKb1.out rfl _ rfl rfl) rfl ?_)
           |((with_reducible refine Qa (N:=63) rfl ?_);refine Qb (Pg gb1 3) (Qc 28 3 (Pg gb1 0) (Pg gb1 3) (Xk gb1) _ rfl rfl) rfl ?_)
           |((with_reducible refine Qa (N:=64) rfl ?_);refine Qb (.bool a0_3) (Qd sT4 gb1 (3) (.bool a0_3) (#[Ii a0_0,Ii a0_1,Ii a0_2,.bool a0_3]) BKb1.out rfl _ rfl rfl) rfl ?_))
          (try simp only [Act.put,sI,sZ,sS])
          go_ret
          exact ⟨by first|rfl|(simp;done)|(simp [*];done),HL.out⟩
         ·
          rw [if_neg c24] at H
          have c24b0:decide (0<a0_2)=false:=decide_eq_false c24
          have hc24:=hid c24
          clear c24
          obtain rfl:=Option.some.inj H
          clear H
          go_enter Tryz.func30,Tryz.ntmps30
          go_wp2_with (first
           |((with_reducible refine Qa (N:=1) rfl ?_);obtain ⟨gb1,hgb1⟩:∃ g_,w.heap.size=g_:=⟨_,rfl⟩;refine Jx #[Ii a0_0,Ii a0_1,Ii a0_2,.bool a0_3] gb1 hgb1 rfl _ rfl rfl ?_;intro w26 hb_ hB_ hs_;have GEb1:Hid (w.heap.size≤gb1):=hid (by have:=HL.out.size;omega);replace HL:=hid (HL.out.trans (hb_.mono GEb1.out));have BKb1:=hid hB_;clear hb_ hB_ hs_ hgb1)
           |((with_reducible refine Qa (N:=4) rfl ?_);refine Qb (Pg gb1 0) (Qc 28 0 (Pg gb1 0) (Pg gb1 0) (Qv gb1) _ rfl rfl) rfl ?_)
           |((with_reducible refine Qa (N:=5) rfl ?_);refine Qb (Ii a0_0) (Qd sT3 gb1 (0) (Ii a0_0) (#[Ii a0_0,Ii a0_1,Ii a0_2,.bool a0_3]) BKb1.out rfl _ rfl rfl) rfl ?_)
           |((with_reducible refine Qa (N:=8) rfl ?_);refine Qb (Pg gb1 0) (Qc 28 0 (Pg gb1 0) (Pg gb1 0) (Qv gb1) _ rfl rfl) rfl ?_)
           |((with_reducible refine Qa (N:=9) rfl ?_);refine Qb (Ii a0_0) (Qd sT3 gb1 (0) (Ii a0_0) (#[Ii a0_0,Ii a0_1,Ii a0_2,.bool a0_3]) BKb1.out rfl _ rfl rfl) rfl ?_)
           |((with_reducible refine Qa (N:=13) rfl ?_);refine Qb (Pg gb1 2) (Qc 28 2 (Pg gb1 0) (Pg gb1 2) (Jd gb1) _ rfl rfl) rfl ?_)
           |((with_reducible refine Qa (N:=14) rfl ?_);refine Qb (Ii a0_2) (Qd sT3 gb1 (2) (Ii a0_2) (#[Ii a0_0,Ii a0_1,Ii a0_2,.bool a0_3]) BKb1.out rfl _ rfl rfl) rfl ?_)
           |((with_reducible refine Qa (N:=18) rfl ?_);refine Qb (Pg gb1 2) (Qc 28 2 (Pg gb1 0) (Pg gb1 2) (Jd gb1) _ rfl rfl) rfl ?_)
           |((with_reducible refine Qa (N:=19) rfl ?_);refine Qb (Ii a0_2) (Qd sT3 gb1 (2) (Ii a0_2) (#[Ii a0_0,Ii a0_1,Ii a0_2,.bool a0_3]) BKb1.out rfl _ rfl rfl) rfl ?_)
           |((with_reducible refine Qa (N:=23) rfl ?_);refine Qb (Pg gb1 0) (Qc 28 0 (Pg gb1 0) (Pg gb1 0) (Qv gb1) _ rfl rfl) rfl ?_)
           |((with_reducible refine Qa (N:=24) rfl ?_);refine Qb (Ii a0_0) (Qd sT3 gb1 (0) (Ii a0_0) (#[Ii a0_0,Ii a0_1,Ii a0_2,.bool a0_3]) BKb1.out rfl _ rfl rfl) rfl ?_)
           |((with_reducible refine Qa (N:=40) rfl ?_);refine Qb (Pg gb1 1) (Qc 28 1 (Pg gb1 0) (Pg gb1 1) (ZD gb1) _ rfl rfl) rfl ?_)
           |((with_reducible refine Qa (N:=41) rfl ?_);refine Qb (Ii a0_1) (Qd sT3 gb1 (1) (Ii a0_1) (#[Ii a0_0,Ii a0_1,Ii a0_2,.bool a0_3]) BKb1.out rfl _ rfl rfl) rfl ?_)
           |((with_reducible refine Qa (N:=44) rfl ?_);refine Qb (Pg gb1 1) (Qc 28 1 (Pg gb1 0) (Pg gb1 1) (ZD gb1) _ rfl rfl) rfl ?_)
           |((with_reducible refine Qa (N:=45) rfl ?_);refine Qb (Ii a0_1) (Qd sT3 gb1 (1) (Ii a0_1) (#[Ii a0_0,Ii a0_1,Ii a0_2,.bool a0_3]) BKb1.out rfl _ rfl rfl) rfl ?_)
           |((with_reducible refine Qa (N:=49) rfl ?_);refine Qb (Pg gb1 0) (Qc 28 0 (Pg gb1 0) (Pg gb1 0) (Qv gb1) _ rfl rfl) rfl ?_)
           |((with_reducible refine Qa (N:=50) rfl ?_);refine Qb (Ii a0_0) (Qd sT3 gb1 (0) (Ii a0_0) (#[Ii a0_0,Ii a0_1,Ii a0_2,.bool a0_3]) BKb1.out rfl _ rfl rfl) rfl ?_)
           |((with_reducible refine Qa (N:=59) rfl ?_);refine Qb (Pg gb1 2) (Qc 28 2 (Pg gb1 0) (Pg gb1 2) (Jd gb1) _ rfl rfl) rfl ?_)
           |((with_reducible refine Qa (N:=60) rfl ?_);refine Qb (Ii a0_2) (Qd sT3 gb1 (2) (Ii a0_2) (#[Ii a0_0,Ii a0_1,Ii a0_2,.bool a0_3]) BKb1.out rfl _ rfl rfl) rfl ?_))
          (try simp only [Act.put,sI,sZ,sS])
          go_ret
          exact ⟨by first|rfl|(simp;done)|(simp [*];done),HL.out⟩
def Zw.f(a0_0 a0_1 a0_2:Int)(a0_3:Bool):Option (Int):=(Jk.f a0_0 a0_1 a0_2 a0_3).bind fun t2=>(if t2=true then (if a0_0=6 then (some 1) else (if a0_0=5 then (if a0_3=true then (some 0) else (some 1)) else (some 0))) else (some (-1)))
theorem Zw.c(a0_0 a0_1 a0_2:Int)(a0_3:Bool)(r1:Int)(w:World)(h:Zw.f a0_0 a0_1 a0_2 a0_3=some r1):
 Calls Tryz.prog 13 #[.agg #[Ii a0_0,Ii a0_1,Ii a0_2,.bool a0_3]] w fun e w'=>e=.returned (Ii r1)∧Below w.heap.size w w':=by
 have HL:=hid (Below.refl w.heap.size w)
 have H:((Jk.f a0_0 a0_1 a0_2 a0_3).bind fun t2=>(if t2=true then (if a0_0=6 then (some 1) else (if a0_0=5 then (if a0_3=true then (some 0) else (some 1)) else (some 0))) else (some (-1))))=some r1:=h
 clear h
 replace H:=Ia H
 obtain ⟨t2,A3_,H⟩:=H
 have A3:=hid A3_
 clear A3_
 cases t2 with
 |true=>
  rw [if_pos rfl] at H
  by_cases c5:a0_0=6
  ·
   rw [if_pos c5] at H
   have c5b0:(a0_0==6)=true:=beq_iff_eq.mpr c5
   have c5b1:(a0_0 != 6)=false:=bne_eq_false_iff_eq.mpr c5
   have hc5:=hid c5
   clear c5
   obtain rfl:=Option.some.inj H
   clear H
   go_enter Tryz.func13,Tryz.ntmps13
   have k7:=True.intro
   go_wp2_with (first
    |((with_reducible refine Qa (N:=1) rfl ?_);obtain ⟨gb1,hgb1⟩:∃ g_,w.heap.size=g_:=⟨_,rfl⟩;refine Jx #[Ii a0_0,Ii a0_1,Ii a0_2,.bool a0_3] gb1 hgb1 rfl _ rfl rfl ?_;intro w6 hb_ hB_ hs_;have GEb1:Hid (w.heap.size≤gb1):=hid (by have:=HL.out.size;omega);replace HL:=hid (HL.out.trans (hb_.mono GEb1.out));have BKb1:=hid hB_;clear hb_ hB_ hs_ hgb1)
    |((with_reducible refine Qa (N:=4) rfl ?_);refine Qb (.agg #[Ii a0_0,Ii a0_1,Ii a0_2,.bool a0_3]) (QI Zp gb1 0 #[Ii a0_0,Ii a0_1,Ii a0_2,.bool a0_3] #[Ii a0_0,Ii a0_1,Ii a0_2,.bool a0_3] BKb1.out (by simp) rfl _ rfl rfl) rfl ?_)
    |(go_at_call 30;clear k7;refine (Jk.c a0_0 a0_1 a0_2 a0_3 true _ A3.out).mono ?_;rintro e_ w8 ⟨rfl,hb_⟩;replace BKb1:=hid (BKb1.out.below hb_ BKb1.out.lt);replace HL:=hid (HL.out.trans (hb_.mono HL.out.size));clear hb_)
    |((with_reducible refine Qa (N:=8) rfl ?_);refine Qb (Pg gb1 0) (Qc 28 0 (Pg gb1 0) (Pg gb1 0) (Qv gb1) _ rfl rfl) rfl ?_)
    |((with_reducible refine Qa (N:=9) rfl ?_);refine Qb (Ii a0_0) (Qd sT3 gb1 (0) (Ii a0_0) (#[Ii a0_0,Ii a0_1,Ii a0_2,.bool a0_3]) BKb1.out rfl _ rfl rfl) rfl ?_))
   (try simp only [Act.put,sI,sZ,sS])
   go_ret
   exact ⟨by first|rfl|(simp;done)|(simp [*];done),HL.out⟩
  ·
   rw [if_neg c5] at H
   have c5b0:(a0_0==6)=false:=beq_eq_false_iff_ne.mpr c5
   have c5b1:(a0_0 != 6)=true:=bne_iff_ne.mpr c5
   have hc5:=hid c5
   clear c5
   by_cases c9:a0_0=5
   ·
    rw [if_pos c9] at H
    have c9b0:(a0_0==5)=true:=beq_iff_eq.mpr c9
    have c9b1:(a0_0 != 5)=false:=bne_eq_false_iff_eq.mpr c9
    have hc9:=hid c9
    clear c9
    cases a0_3 with
    |true=>
     rw [if_pos rfl] at H
     obtain rfl:=Option.some.inj H
     clear H
     go_enter Tryz.func13,Tryz.ntmps13
     have k12:=True.intro
     go_wp2_with (first
      |((with_reducible refine Qa (N:=1) rfl ?_);obtain ⟨gb1,hgb1⟩:∃ g_,w.heap.size=g_:=⟨_,rfl⟩;refine Jx #[Ii a0_0,Ii a0_1,Ii a0_2,.bool true] gb1 hgb1 rfl _ rfl rfl ?_;intro w11 hb_ hB_ hs_;have GEb1:Hid (w.heap.size≤gb1):=hid (by have:=HL.out.size;omega);replace HL:=hid (HL.out.trans (hb_.mono GEb1.out));have BKb1:=hid hB_;clear hb_ hB_ hs_ hgb1)
      |((with_reducible refine Qa (N:=4) rfl ?_);refine Qb (.agg #[Ii a0_0,Ii a0_1,Ii a0_2,.bool true]) (QI Zp gb1 0 #[Ii a0_0,Ii a0_1,Ii a0_2,.bool true] #[Ii a0_0,Ii a0_1,Ii a0_2,.bool true] BKb1.out (by simp) rfl _ rfl rfl) rfl ?_)
      |(go_at_call 30;clear k12;refine (Jk.c a0_0 a0_1 a0_2 true true _ A3.out).mono ?_;rintro e_ w13 ⟨rfl,hb_⟩;replace BKb1:=hid (BKb1.out.below hb_ BKb1.out.lt);replace HL:=hid (HL.out.trans (hb_.mono HL.out.size));clear hb_)
      |((with_reducible refine Qa (N:=8) rfl ?_);refine Qb (Pg gb1 0) (Qc 28 0 (Pg gb1 0) (Pg gb1 0) (Qv gb1) _ rfl rfl) rfl ?_)
      |((with_reducible refine Qa (N:=9) rfl ?_);refine Qb (Ii a0_0) (Qd sT3 gb1 (0) (Ii a0_0) (#[Ii a0_0,Ii a0_1,Ii a0_2,.bool true]) BKb1.out rfl _ rfl rfl) rfl ?_)
      |((with_reducible refine Qa (N:=12) rfl ?_);refine Qb (Pg gb1 0) (Qc 28 0 (Pg gb1 0) (Pg gb1 0) (Qv gb1) _ rfl rfl) rfl ?_)
      |((with_reducible refine Qa (N:=13) rfl ?_);refine Qb (Ii a0_0) (Qd sT3 gb1 (0) (Ii a0_0) (#[Ii a0_0,Ii a0_1,Ii a0_2,.bool true]) BKb1.out rfl _ rfl rfl) rfl ?_)
      |((with_reducible refine Qa (N:=16) rfl ?_);refine Qb (Pg gb1 3) (Qc 28 3 (Pg gb1 0) (Pg gb1 3) (Xk gb1) _ rfl rfl) rfl ?_)
      |((with_reducible refine Qa (N:=17) rfl ?_);refine Qb (.bool true) (Qd sT4 gb1 (3) (.bool true) (#[Ii a0_0,Ii a0_1,Ii a0_2,.bool true]) BKb1.out rfl _ rfl rfl) rfl ?_))
     (try simp only [Act.put,sI,sZ,sS])
     go_ret
     exact ⟨by first|rfl|(simp;done)|(simp [*];done),HL.out⟩
    |false=>
     rw [if_neg (show ¬ (false=true) by decide)] at H
     obtain rfl:=Option.some.inj H
     clear H
     go_enter Tryz.func13,Tryz.ntmps13
     have k15:=True.intro
     go_wp2_with (first
      |((with_reducible refine Qa (N:=1) rfl ?_);obtain ⟨gb1,hgb1⟩:∃ g_,w.heap.size=g_:=⟨_,rfl⟩;refine Jx #[Ii a0_0,Ii a0_1,Ii a0_2,.bool false] gb1 hgb1 rfl _ rfl rfl ?_;intro w14 hb_ hB_ hs_;have GEb1:Hid (w.heap.size≤gb1):=hid (by have:=HL.out.size;omega);replace HL:=hid (HL.out.trans (hb_.mono GEb1.out));have BKb1:=hid hB_;clear hb_ hB_ hs_ hgb1)
      |((with_reducible refine Qa (N:=4) rfl ?_);refine Qb (.agg #[Ii a0_0,Ii a0_1,Ii a0_2,.bool false]) (QI Zp gb1 0 #[Ii a0_0,Ii a0_1,Ii a0_2,.bool false] #[Ii a0_0,Ii a0_1,Ii a0_2,.bool false] BKb1.out (by simp) rfl _ rfl rfl) rfl ?_)
      |(go_at_call 30;clear k15;refine (Jk.c a0_0 a0_1 a0_2 false true _ A3.out).mono ?_;rintro e_ w16 ⟨rfl,hb_⟩;replace BKb1:=hid (BKb1.out.below hb_ BKb1.out.lt);replace HL:=hid (HL.out.trans (hb_.mono HL.out.size));clear hb_)
      |((with_reducible refine Qa (N:=8) rfl ?_);refine Qb (Pg gb1 0) (Qc 28 0 (Pg gb1 0) (Pg gb1 0) (Qv gb1) _ rfl rfl) rfl ?_)
      |((with_reducible refine Qa (N:=9) rfl ?_);refine Qb (Ii a0_0) (Qd sT3 gb1 (0) (Ii a0_0) (#[Ii a0_0,Ii a0_1,Ii a0_2,.bool false]) BKb1.out rfl _ rfl rfl) rfl ?_)
      |((with_reducible refine Qa (N:=12) rfl ?_);refine Qb (Pg gb1 0) (Qc 28 0 (Pg gb1 0) (Pg gb1 0) (Qv gb1) _ rfl rfl) rfl ?_)
      |((with_reducible refine Qa (N:=13) rfl ?_);refine Qb (Ii a0_0) (Qd sT3 gb1 (0) (Ii a0_0) (#[Ii a0_0,Ii a0_1,Ii a0_2,.bool false]) BKb1.out rfl _ rfl rfl) rfl ?_)
      |((with_reducible refine Qa (N:=16) rfl ?_);refine Qb (Pg gb1 3) (Qc 28 3 (Pg gb1 0) (Pg gb1 3) (Xk gb1) _ rfl rfl) rfl ?_)
      |((with_reducible refine Qa (N:=17) rfl ?_);refine Qb (.bool false) (Qd sT4 gb1 (3) (.bool false) (#[Ii a0_0,Ii a0_1,Ii a0_2,.bool false]) BKb1.out rfl _ rfl rfl) rfl ?_))
     (try simp only [Act.put,sI,sZ,sS])
     go_ret
     exact ⟨by first|rfl|(simp;done)|(simp [*];done),HL.out⟩
   ·
    rw [if_neg c9] at H
    have c9b0:(a0_0==5)=false:=beq_eq_false_iff_ne.mpr c9
    have c9b1:(a0_0 != 5)=true:=bne_iff_ne.mpr c9
    have hc9:=hid c9
    clear c9
    obtain rfl:=Option.some.inj H
    clear H
    go_enter Tryz.func13,Tryz.ntmps13
    have k18:=True.intro
    go_wp2_with (first
     |((with_reducible refine Qa (N:=1) rfl ?_);obtain ⟨gb1,hgb1⟩:∃ g_,w.heap.size=g_:=⟨_,rfl⟩;refine Jx #[Ii a0_0,Ii a0_1,Ii a0_2,.bool a0_3] gb1 hgb1 rfl _ rfl rfl ?_;intro w17 hb_ hB_ hs_;have GEb1:Hid (w.heap.size≤gb1):=hid (by have:=HL.out.size;omega);replace HL:=hid (HL.out.trans (hb_.mono GEb1.out));have BKb1:=hid hB_;clear hb_ hB_ hs_ hgb1)
     |((with_reducible refine Qa (N:=4) rfl ?_);refine Qb (.agg #[Ii a0_0,Ii a0_1,Ii a0_2,.bool a0_3]) (QI Zp gb1 0 #[Ii a0_0,Ii a0_1,Ii a0_2,.bool a0_3] #[Ii a0_0,Ii a0_1,Ii a0_2,.bool a0_3] BKb1.out (by simp) rfl _ rfl rfl) rfl ?_)
     |(go_at_call 30;clear k18;refine (Jk.c a0_0 a0_1 a0_2 a0_3 true _ A3.out).mono ?_;rintro e_ w19 ⟨rfl,hb_⟩;replace BKb1:=hid (BKb1.out.below hb_ BKb1.out.lt);replace HL:=hid (HL.out.trans (hb_.mono HL.out.size));clear hb_)
     |((with_reducible refine Qa (N:=8) rfl ?_);refine Qb (Pg gb1 0) (Qc 28 0 (Pg gb1 0) (Pg gb1 0) (Qv gb1) _ rfl rfl) rfl ?_)
     |((with_reducible refine Qa (N:=9) rfl ?_);refine Qb (Ii a0_0) (Qd sT3 gb1 (0) (Ii a0_0) (#[Ii a0_0,Ii a0_1,Ii a0_2,.bool a0_3]) BKb1.out rfl _ rfl rfl) rfl ?_)
     |((with_reducible refine Qa (N:=12) rfl ?_);refine Qb (Pg gb1 0) (Qc 28 0 (Pg gb1 0) (Pg gb1 0) (Qv gb1) _ rfl rfl) rfl ?_)
     |((with_reducible refine Qa (N:=13) rfl ?_);refine Qb (Ii a0_0) (Qd sT3 gb1 (0) (Ii a0_0) (#[Ii a0_0,Ii a0_1,Ii a0_2,.bool a0_3]) BKb1.out rfl _ rfl rfl) rfl ?_))
    (try simp only [Act.put,sI,sZ,sS])
    go_ret
    exact ⟨by first|rfl|(simp;done)|(simp [*];done),HL.out⟩
 |false=>
  rw [if_neg (show ¬ (false=true) by decide)] at H
  obtain rfl:=Option.some.inj H
  clear H
  go_enter Tryz.func13,Tryz.ntmps13
  have k21:=True.intro
  go_wp2_with (first
   |((with_reducible refine Qa (N:=1) rfl ?_);obtain ⟨gb1,hgb1⟩:∃ g_,w.heap.size=g_:=⟨_,rfl⟩;refine Jx #[Ii a0_0,Ii a0_1,Ii a0_2,.bool a0_3] gb1 hgb1 rfl _ rfl rfl ?_;intro w20 hb_ hB_ hs_;have GEb1:Hid (w.heap.size≤gb1):=hid (by have:=HL.out.size;omega);replace HL:=hid (HL.out.trans (hb_.mono GEb1.out));have BKb1:=hid hB_;clear hb_ hB_ hs_ hgb1)
   |((with_reducible refine Qa (N:=4) rfl ?_);refine Qb (.agg #[Ii a0_0,Ii a0_1,Ii a0_2,.bool a0_3]) (QI Zp gb1 0 #[Ii a0_0,Ii a0_1,Ii a0_2,.bool a0_3] #[Ii a0_0,Ii a0_1,Ii a0_2,.bool a0_3] BKb1.out (by simp) rfl _ rfl rfl) rfl ?_)
   |(go_at_call 30;clear k21;refine (Jk.c a0_0 a0_1 a0_2 a0_3 false _ A3.out).mono ?_;rintro e_ w22 ⟨rfl,hb_⟩;replace BKb1:=hid (BKb1.out.below hb_ BKb1.out.lt);replace HL:=hid (HL.out.trans (hb_.mono HL.out.size));clear hb_))
  (try simp only [Act.put,sI,sZ,sS])
  go_ret
  exact ⟨by first|rfl|(simp;done)|(simp [*];done),HL.out⟩
end Go.Proofs.YtaipghemddjecaaGreatDoor
