import Derived.Test.YtaipghemddjecaaGreatDoorMiy
import Derived.Test.YtaipghemddjecaaGreatDoorProg
import Derived.Test.YtaipghemddjecaaGreatDoorGwy
import Derived.Test.YtaipghemddjecaaGreatDoorMny
import Derived.Test.YtaipghemddjecaaGreatDoorRsy
namespace Go.Proofs.YtaipghemddjecaaGreatDoor
set_option maxHeartbeats 40000000
set_option maxRecDepth 100000
open Go.RowKit
set_option linter.unusedVariables false
set_option linter.unusedSimpArgs false
theorem JV:Tryz.prog.underlying 9=some .string:=by kernel_rfl
theorem KD(t:ByteArray)(k:Int)(h0:0≤k)(h1:k<t.size)(w:World):(Instr.index 9 (.string t) (Ii k)).run Tryz.prog w=.ok (.int .u8 (bt t k.toNat)) w:=by
 have hb:=kF t k.toNat (by omega)
 simp [Instr.index,asIntOf,run_underlying JV,h0,h1]
 exact hb
theorem QbN(w:World):(isAgg 75).run Tryz.prog w=.ok true w:=by kernel_rfl
theorem QaA(w:World):(sizeOf 75).run Tryz.prog w=.ok 3 w:=by kernel_rfl
theorem QaB(w:World):(zeroValue 75).run Tryz.prog w=.ok (.agg #[Ii 0,Ii 0,Ii 0]) w:=by kernel_rfl
theorem Qs:AggT Tryz.prog 75 3 #[Ii 0,Ii 0,Ii 0]:=⟨QbN,QaA,QaB,by first|rfl|decide⟩
theorem VE:Tryz.prog.underlying 60=some (.slice 9):=by kernel_rfl
theorem sT9:ScT Tryz.prog 9:=⟨fun w=>by kernel_rfl,fun w=>by kernel_rfl⟩
theorem Js(g:Nat)(w:World):(Instr.fieldAt 75 (Pg g 0) 2).run Tryz.prog w=.ok (Pg g 2) w:=by kernel_rfl
theorem Zk:ScT Tryz.prog 33:=⟨fun w=>by kernel_rfl,fun w=>by kernel_rfl⟩
theorem Ka(g:Nat)(w:World):(Instr.fieldAt 75 (Pg g 0) 1).run Tryz.prog w=.ok (Pg g 1) w:=by kernel_rfl
theorem sT3:ScT Tryz.prog 3:=⟨fun w=>by kernel_rfl,fun w=>by kernel_rfl⟩
theorem ZC(g:Nat)(w:World):(Instr.fieldAt 75 (Pg g 0) 0).run Tryz.prog w=.ok (Pg g 0) w:=by kernel_rfl
def QD.f(a0:ByteArray)(a1:Int):Option (Bool):=if a1≥0 then (some (decide (a1≤(a0.size:Int)))) else (some false)
theorem QD.c(a0:ByteArray)(a1:Int)(r1:Bool)(w:World)(h:QD.f a0 a1=some r1):
 Calls Tryz.prog 66 #[.string a0,Ii a1] w fun e w'=>e=.returned (.bool r1)∧w=w':=by
 have H:(if a1≥0 then (some (decide (a1≤(a0.size:Int)))) else (some false))=some r1:=h
 clear h
 by_cases c1:a1≥0
 ·
  rw [if_pos c1] at H
  have c1b0:decide (0≤a1)=true:=decide_eq_true c1
  have hc1:=hid c1
  clear c1
  obtain rfl:=Option.some.inj H
  clear H
  go_enter Tryz.func66,Tryz.ntmps66
  go_wp2_with fail
  (try simp only [Act.put,sI,sZ,sS])
  go_ret
  exact ⟨by first|rfl|(simp;done)|(simp [*];done),rfl⟩
 ·
  rw [if_neg c1] at H
  have c1b0:decide (0≤a1)=false:=decide_eq_false c1
  have hc1:=hid c1
  clear c1
  obtain rfl:=Option.some.inj H
  clear H
  go_enter Tryz.func66,Tryz.ntmps66
  go_wp2_with fail
  (try simp only [Act.put,sI,sZ,sS])
  go_ret
  exact ⟨by first|rfl|(simp;done)|(simp [*];done),rfl⟩
def QG.f:Option (Int×Int×Int):=some (0,0,5)
theorem QG.c(r1 r2 r3:Int)(w:World)(h:QG.f=some (r1,r2,r3)):
 Calls Tryz.prog 67 #[] w fun e w'=>e=.returned (.agg #[Ii r1,Ii r2,Ii r3])∧Below w.heap.size w w':=by
 have HL:=hid (Below.refl w.heap.size w)
 have H:(some (0,0,5))=some (r1,r2,r3):=h
 clear h
 simp only [Option.some.injEq,Prod.mk.injEq] at H
 obtain ⟨rfl,rfl,rfl⟩:=H
 go_enter Tryz.func67,Tryz.ntmps67
 go_wp2_with (first
  |((with_reducible refine Qa (N:=0) rfl ?_);obtain ⟨gb1,hgb1⟩:∃ g_,w.heap.size=g_:=⟨_,rfl⟩;refine Qq Qs gb1 hgb1 rfl rfl ?_;intro w2 hb_ hB_ hs_;have GEb1:Hid (w.heap.size≤gb1):=hid (by have:=HL.out.size;omega);replace HL:=hid (HL.out.trans (hb_.mono GEb1.out));have BKb1:=hid hB_;clear hb_ hB_ hs_ hgb1)
  |((with_reducible refine Qa (N:=1) rfl ?_);refine Qr (.agg #[Ii 0,Ii 0,Ii 5]) _ rfl rfl ?_ ?_;(intro ww_;simp only [List.map_toArray,List.map_cons,List.map_nil];kernel_rfl))
  |((with_reducible refine Qf (t:=75) (p:=0) rfl ?_);refine Qg Qs gb1 0 #[Ii 0,Ii 0,Ii 0] #[Ii 0,Ii 0,Ii 5] #[Ii 0,Ii 0,Ii 5] BKb1.out rfl (by simp) (by intro v_ hv_;simp at hv_;rcases hv_ with rfl|rfl|rfl <;> first|rfl) rfl rfl _ _ rfl rfl rfl ?_;intro w3 ho_ hB_;replace HL:=hid (ho_.below HL.out GEb1.out);replace BKb1:=hid hB_;clear ho_ hB_))
 (try simp only [Act.put,sI,sZ,sS])
 refine bodyPost_ret (v:=.agg #[Ii 0,Ii 0,Ii 5]) (Jz Qs rfl _ gb1 #[Ii 0,Ii 0,Ii 5] BKb1.out rfl rfl) rfl ?_
 exact ⟨by first|rfl|(simp;done)|(simp [*];done),HL.out⟩
def QN.l0:Nat→ByteArray→Int→ByteArray→Int→Option (Int×Int×Int)
 |0,_,_,_,_=>none
 |k+1,a0,a1,a2,x15_0=>if x15_0<(a2.size:Int) then (if (wrap64 (a1+x15_0))=(a0.size:Int) then (some ((a0.size:Int),0,1)) else (if 0≤(wrap64 (a1+x15_0)) then (if (wrap64 (a1+x15_0))<(a0.size:Int) then (if 0≤x15_0 then (if (bt a0 (wrap64 (a1+x15_0)).toNat)=(bt a2 x15_0.toNat) then (QN.l0 k a0 a1 a2 (wrap64 (x15_0+1))) else (some (wrap64 (a1+x15_0),0,2))) else (none)) else (none)) else (none))) else (some (wrap64 (a1+(a2.size:Int)),0,0))
def QN.f(k:Nat)(a0:ByteArray)(a1:Int)(a2:ByteArray):Option (Int×Int×Int):=(QD.f a0 a1).bind fun t2=>(if t2=true then (QN.l0 k a0 a1 a2 0) else ((QG.f).bind fun bt3=>(some (bt3.1,bt3.2.1,bt3.2.2))))
theorem QN.c(k:Nat)(a0:ByteArray)(a1:Int)(a2:ByteArray)(r1 r2 r3:Int)(w:World)(h:QN.f k a0 a1 a2=some (r1,r2,r3)):
 Calls Tryz.prog 64 #[.string a0,Ii a1,.string a2] w fun e w'=>e=.returned (.agg #[Ii r1,Ii r2,Ii r3])∧Below w.heap.size w w':=by
 have HL:=hid (Below.refl w.heap.size w)
 have H:((QD.f a0 a1).bind fun t2=>(if t2=true then (QN.l0 k a0 a1 a2 0) else ((QG.f).bind fun bt3=>(some (bt3.1,bt3.2.1,bt3.2.2)))))=some (r1,r2,r3):=h
 clear h
 replace H:=Ia H
 obtain ⟨t2,A6_,H⟩:=H
 have A6:=hid A6_
 clear A6_
 cases t2 with
 |true=>
  rw [if_pos rfl] at H
  have H':=hid H
  clear H
  go_enter Tryz.func64,Tryz.ntmps64
  have k9:=True.intro
  go_wp2_with (first
   |((with_reducible refine Qa (N:=6) rfl ?_);obtain ⟨gb1,hgb1⟩:∃ g_,w.heap.size=g_:=⟨_,rfl⟩;refine Qq Qs gb1 hgb1 rfl rfl ?_;intro w8 hb_ hB_ hs_;have GEb1:Hid (w.heap.size≤gb1):=hid (by have:=HL.out.size;omega);replace HL:=hid (HL.out.trans (hb_.mono GEb1.out));have BKb1:=hid hB_;clear hb_ hB_ hs_ hgb1)
   |(go_at_call 66;clear k9;refine (QD.c a0 a1 true _ A6.out).mono ?_;rintro e_ w' ⟨rfl,rfl⟩))
  (try simp only [Act.put,sI,sZ,sS])
  go_loopg [15] k (fun kq v15 w'=>∃ (x15_0:Int),v15=Ii x15_0∧Hid (QN.l0 kq a0 a1 a2 x15_0=some (r1,r2,r3))∧Hid (kq≤k)∧Hid (Blk w' gb1 75 #[Ii 0,Ii 0,Ii 0])∧Hid (Below w.heap.size w w'))
  case atStart=>exact ⟨(0:Int),(by first|rfl|(simp;done)|(simp [*];done)),H',(hid (by first|omega|(omega))),(hid (by exact BKb1.out)),HL⟩
  case round=>
   clear H'
   clear HL BKb1
   obtain ⟨x15_0,rfl,HA,HK10,BKb1,HL⟩:=hrel
   cases gk with
   |zero=>exact absurd HA.out (by simp [QN.l0])
   |succ k11=>
    have H:=HA.out
    clear HA
    simp only [QN.l0] at H
    by_cases c12:x15_0<(a2.size:Int)
    ·
     rw [if_pos c12] at H
     have c12b0:decide (x15_0<(a2.size:Int))=true:=decide_eq_true c12
     have hc12:=hid c12
     clear c12
     by_cases c13:(wrap64 (a1+x15_0))=(a0.size:Int)
     ·
      rw [if_pos c13] at H
      have c13b0:((wrap64 (a1+x15_0))==(a0.size:Int))=true:=beq_iff_eq.mpr c13
      have c13b1:((wrap64 (a1+x15_0)) != (a0.size:Int))=false:=bne_eq_false_iff_eq.mpr c13
      have hc13:=hid c13
      clear c13
      simp only [Option.some.injEq,Prod.mk.injEq] at H
      obtain ⟨rfl,rfl,rfl⟩:=H
      go_wp2_with (first
       |((with_reducible refine Qa (N:=27) rfl ?_);refine Qr (.agg #[Ii (a0.size:Int),Ii 0,Ii 1]) _ rfl rfl ?_ ?_;(intro ww_;simp only [List.map_toArray,List.map_cons,List.map_nil];kernel_rfl))
       |((with_reducible refine Qf (t:=75) (p:=6) rfl ?_);refine Qg Qs gb1 0 #[Ii 0,Ii 0,Ii 0] #[Ii (a0.size:Int),Ii 0,Ii 1] #[Ii (a0.size:Int),Ii 0,Ii 1] BKb1.out rfl (by simp) (by intro v_ hv_;simp at hv_;rcases hv_ with rfl|rfl|rfl <;> first|rfl) rfl rfl _ _ rfl rfl rfl ?_;intro w14 ho_ hB_;replace HL:=hid (ho_.below HL.out GEb1.out);replace BKb1:=hid hB_;clear ho_ hB_))
      (try simp only [Act.put,sI,sZ,sS])
      refine bodyPost_ret (v:=.agg #[Ii (a0.size:Int),Ii 0,Ii 1]) (Jz Qs rfl _ gb1 #[Ii (a0.size:Int),Ii 0,Ii 1] BKb1.out rfl rfl) rfl ?_
      exact ⟨by first|rfl|(simp;done)|(simp [*];done),HL.out⟩
     ·
      rw [if_neg c13] at H
      have c13b0:((wrap64 (a1+x15_0))==(a0.size:Int))=false:=beq_eq_false_iff_ne.mpr c13
      have c13b1:((wrap64 (a1+x15_0)) != (a0.size:Int))=true:=bne_iff_ne.mpr c13
      have hc13:=hid c13
      clear c13
      by_cases c15:0≤(wrap64 (a1+x15_0))
      ·
       rw [if_pos c15] at H
       have c15b0:decide (0≤(wrap64 (a1+x15_0)))=true:=decide_eq_true c15
       have hc15:=hid c15
       clear c15
       by_cases c16:(wrap64 (a1+x15_0))<(a0.size:Int)
       ·
        rw [if_pos c16] at H
        have c16b0:decide ((wrap64 (a1+x15_0))<(a0.size:Int))=true:=decide_eq_true c16
        have hc16:=hid c16
        clear c16
        by_cases c17:0≤x15_0
        ·
         rw [if_pos c17] at H
         have c17b0:decide (0≤x15_0)=true:=decide_eq_true c17
         have hc17:=hid c17
         clear c17
         by_cases c18:(bt a0 (wrap64 (a1+x15_0)).toNat)=(bt a2 x15_0.toNat)
         ·
          rw [if_pos c18] at H
          have c18b0:((bt a0 (wrap64 (a1+x15_0)).toNat)==(bt a2 x15_0.toNat))=true:=beq_iff_eq.mpr c18
          have c18b1:((bt a0 (wrap64 (a1+x15_0)).toNat) != (bt a2 x15_0.toNat))=false:=bne_eq_false_iff_eq.mpr c18
          have hc18:=hid c18
          clear c18
          have H':=hid H
          clear H
          go_wp2_with fail
          (try simp only [Act.put,sI,sZ,sS])
          have WR64:=Zs
          have WR32:=ZA
          have WR8:=Ko
          have WRU:=ZY
          refine Xb (by kernel_rfl) (by kernel_rfl) ?_
          refine QY (.string a0) (fun z_ hc_=>Qo (.tmp 0) (.inl rfl) _ rfl) rfl rfl ?_
          intro t_ k_;simp only [sI,sZ,sS] at k_;subst k_
          refine QY (Ii a1) (fun z_ hc_=>Qo (.tmp 1) (.inl rfl) _ rfl) rfl rfl ?_
          intro t_ k_;simp only [sI,sZ,sS] at k_;subst k_
          refine QY (Ii x15_0) (fun z_ hc_=>Qo (.tmp 7) (.inl rfl) _ rfl) rfl rfl ?_
          intro t_ k_;simp only [sI,sZ,sS] at k_;subst k_
          refine QY (Ii (wrap64 (a1+x15_0))) (fun z_ hc_=>by go_simp <;> (unfold wrap64;omega)) rfl rfl ?_
          intro t_ k_;simp only [sI,sZ,sS] at k_;subst k_
          refine QY (.int .u8 (bt a0 (wrap64 (a1+x15_0)).toNat)) (fun z_ hc_=>by obtain ⟨n_,hn_⟩:=hc_;exact XW 9 (.string a0) (Ii (wrap64 (a1+x15_0))) (.int .u8 (bt a0 (wrap64 (a1+x15_0)).toNat)) (KD a0 (wrap64 (a1+x15_0)) hc15.out hc16.out) _ _ rfl rfl rfl) rfl rfl ?_
          intro t_ k_;simp only [sI,sZ,sS] at k_;subst k_
          refine QY (.string a2) (fun z_ hc_=>Qo (.tmp 2) (.inl rfl) _ rfl) rfl rfl ?_
          intro t_ k_;simp only [sI,sZ,sS] at k_;subst k_
          refine QY (Ii x15_0) (fun z_ hc_=>Qo (.tmp 7) (.inl rfl) _ rfl) rfl rfl ?_
          intro t_ k_;simp only [sI,sZ,sS] at k_;subst k_
          refine QY (.int .u8 (bt a2 x15_0.toNat)) (fun z_ hc_=>by obtain ⟨n_,hn_⟩:=hc_;exact XW 9 (.string a2) (Ii x15_0) (.int .u8 (bt a2 x15_0.toNat)) (KD a2 x15_0 hc17.out hc12.out) _ _ rfl rfl rfl) rfl rfl ?_
          intro t_ k_;simp only [sI,sZ,sS] at k_;subst k_
          refine QY (.bool false) (fun z_ hc_=>by go_simp <;> (unfold wrap64;omega)) rfl rfl ?_
          intro t_ k_;simp only [sI,sZ,sS] at k_;subst k_
          refine QY (.bool false) (fun z_ hc_=>Qo (.tmp 37) (.inr rfl) _ rfl) rfl rfl ?_
          intro t_ k_;simp only [sI,sZ,sS] at k_;subst k_
          refine qg ?_
          rintro w8_ ⟨n_,rfl⟩
          replace BKb1:=hid (BKb1.out.below n_.below BKb1.out.lt)
          replace HL:=hid (HL.out.trans (n_.below.mono HL.out.size))
          generalize n_.world=w19 at *
          clear n_ WR64 WR32 WR8 WRU
          go_wp2_with fail
          (try simp only [Act.put,sI,sZ,sS])
          go_roundg k11
          case measure=>have:=HK10.out;omega
          case rel=>exact ⟨wrap64 (x15_0+1),(by first|rfl|(simp;done)|(simp [*];done)),H',(hid (by first|omega|(have:=HK10.out;omega))),(hid (by exact BKb1.out)),HL⟩
         ·
          rw [if_neg c18] at H
          have c18b0:((bt a0 (wrap64 (a1+x15_0)).toNat)==(bt a2 x15_0.toNat))=false:=beq_eq_false_iff_ne.mpr c18
          have c18b1:((bt a0 (wrap64 (a1+x15_0)).toNat) != (bt a2 x15_0.toNat))=true:=bne_iff_ne.mpr c18
          have hc18:=hid c18
          clear c18
          simp only [Option.some.injEq,Prod.mk.injEq] at H
          obtain ⟨rfl,rfl,rfl⟩:=H
          go_wp2_with fail
          (try simp only [Act.put,sI,sZ,sS])
          have WR64:=Zs
          have WR32:=ZA
          have WR8:=Ko
          have WRU:=ZY
          refine Xb (by kernel_rfl) (by kernel_rfl) ?_
          refine QY (.string a0) (fun z_ hc_=>Qo (.tmp 0) (.inl rfl) _ rfl) rfl rfl ?_
          intro t_ k_;simp only [sI,sZ,sS] at k_;subst k_
          refine QY (Ii a1) (fun z_ hc_=>Qo (.tmp 1) (.inl rfl) _ rfl) rfl rfl ?_
          intro t_ k_;simp only [sI,sZ,sS] at k_;subst k_
          refine QY (Ii x15_0) (fun z_ hc_=>Qo (.tmp 7) (.inl rfl) _ rfl) rfl rfl ?_
          intro t_ k_;simp only [sI,sZ,sS] at k_;subst k_
          refine QY (Ii (wrap64 (a1+x15_0))) (fun z_ hc_=>by go_simp <;> (unfold wrap64;omega)) rfl rfl ?_
          intro t_ k_;simp only [sI,sZ,sS] at k_;subst k_
          refine QY (.int .u8 (bt a0 (wrap64 (a1+x15_0)).toNat)) (fun z_ hc_=>by obtain ⟨n_,hn_⟩:=hc_;exact XW 9 (.string a0) (Ii (wrap64 (a1+x15_0))) (.int .u8 (bt a0 (wrap64 (a1+x15_0)).toNat)) (KD a0 (wrap64 (a1+x15_0)) hc15.out hc16.out) _ _ rfl rfl rfl) rfl rfl ?_
          intro t_ k_;simp only [sI,sZ,sS] at k_;subst k_
          refine QY (.string a2) (fun z_ hc_=>Qo (.tmp 2) (.inl rfl) _ rfl) rfl rfl ?_
          intro t_ k_;simp only [sI,sZ,sS] at k_;subst k_
          refine QY (Ii x15_0) (fun z_ hc_=>Qo (.tmp 7) (.inl rfl) _ rfl) rfl rfl ?_
          intro t_ k_;simp only [sI,sZ,sS] at k_;subst k_
          refine QY (.int .u8 (bt a2 x15_0.toNat)) (fun z_ hc_=>by obtain ⟨n_,hn_⟩:=hc_;exact XW 9 (.string a2) (Ii x15_0) (.int .u8 (bt a2 x15_0.toNat)) (KD a2 x15_0 hc17.out hc12.out) _ _ rfl rfl rfl) rfl rfl ?_
          intro t_ k_;simp only [sI,sZ,sS] at k_;subst k_
          refine QY (.bool true) (fun z_ hc_=>by go_simp <;> (unfold wrap64;omega)) rfl rfl ?_
          intro t_ k_;simp only [sI,sZ,sS] at k_;subst k_
          refine QY (.bool true) (fun z_ hc_=>Qo (.tmp 37) (.inr rfl) _ rfl) rfl rfl ?_
          intro t_ k_;simp only [sI,sZ,sS] at k_;subst k_
          refine qg ?_
          rintro w8_ ⟨n_,rfl⟩
          replace BKb1:=hid (BKb1.out.below n_.below BKb1.out.lt)
          replace HL:=hid (HL.out.trans (n_.below.mono HL.out.size))
          generalize n_.world=w20 at *
          clear n_ WR64 WR32 WR8 WRU
          go_wp2_with (first
           |((with_reducible refine Qa (N:=41) rfl ?_);refine Qr (.agg #[Ii (wrap64 (a1+x15_0)),Ii 0,Ii 2]) _ rfl rfl ?_ ?_;(intro ww_;simp only [List.map_toArray,List.map_cons,List.map_nil];kernel_rfl))
           |((with_reducible refine Qf (t:=75) (p:=6) rfl ?_);refine Qg Qs gb1 0 #[Ii 0,Ii 0,Ii 0] #[Ii (wrap64 (a1+x15_0)),Ii 0,Ii 2] #[Ii (wrap64 (a1+x15_0)),Ii 0,Ii 2] BKb1.out rfl (by simp) (by intro v_ hv_;simp at hv_;rcases hv_ with rfl|rfl|rfl <;> first|rfl) rfl rfl _ _ rfl rfl rfl ?_;intro w21 ho_ hB_;replace HL:=hid (ho_.below HL.out GEb1.out);replace BKb1:=hid hB_;clear ho_ hB_))
          (try simp only [Act.put,sI,sZ,sS])
          refine bodyPost_ret (v:=.agg #[Ii (wrap64 (a1+x15_0)),Ii 0,Ii 2]) (Jz Qs rfl _ gb1 #[Ii (wrap64 (a1+x15_0)),Ii 0,Ii 2] BKb1.out rfl rfl) rfl ?_
          exact ⟨by first|rfl|(simp;done)|(simp [*];done),HL.out⟩
        ·
         rw [if_neg c17] at H
         exact absurd H (by simp)
       ·
        rw [if_neg c16] at H
        exact absurd H (by simp)
      ·
       rw [if_neg c15] at H
       exact absurd H (by simp)
    ·
     rw [if_neg c12] at H
     have c12b0:decide (x15_0<(a2.size:Int))=false:=decide_eq_false c12
     have hc12:=hid c12
     clear c12
     simp only [Option.some.injEq,Prod.mk.injEq] at H
     obtain ⟨rfl,rfl,rfl⟩:=H
     go_wp2_with (first
      |((with_reducible refine Qa (N:=47) rfl ?_);refine Qr (.agg #[Ii (wrap64 (a1+(a2.size:Int))),Ii 0,Ii 0]) _ rfl rfl ?_ ?_;(intro ww_;simp only [List.map_toArray,List.map_cons,List.map_nil];kernel_rfl))
      |((with_reducible refine Qf (t:=75) (p:=6) rfl ?_);refine Qg Qs gb1 0 #[Ii 0,Ii 0,Ii 0] #[Ii (wrap64 (a1+(a2.size:Int))),Ii 0,Ii 0] #[Ii (wrap64 (a1+(a2.size:Int))),Ii 0,Ii 0] BKb1.out rfl (by simp) (by intro v_ hv_;simp at hv_;rcases hv_ with rfl|rfl|rfl <;> first|rfl) rfl rfl _ _ rfl rfl rfl ?_;intro w22 ho_ hB_;replace HL:=hid (ho_.below HL.out GEb1.out);replace BKb1:=hid hB_;clear ho_ hB_))
     (try simp only [Act.put,sI,sZ,sS])
     refine bodyPost_ret (v:=.agg #[Ii (wrap64 (a1+(a2.size:Int))),Ii 0,Ii 0]) (Jz Qs rfl _ gb1 #[Ii (wrap64 (a1+(a2.size:Int))),Ii 0,Ii 0] BKb1.out rfl rfl) rfl ?_
     exact ⟨by first|rfl|(simp;done)|(simp [*];done),HL.out⟩
 |false=>
  rw [if_neg (show ¬ (false=true) by decide)] at H
  replace H:=Ia H
  obtain ⟨⟨t3,t4,t5⟩,A23_,H⟩:=H
  dsimp only at H
  have A23:=hid A23_
  clear A23_
  simp only [Option.some.injEq,Prod.mk.injEq] at H
  obtain ⟨rfl,rfl,rfl⟩:=H
  go_enter Tryz.func64,Tryz.ntmps64
  have k25:=True.intro
  have k26:=True.intro
  go_wp2_with (first
   |((with_reducible refine Qa (N:=6) rfl ?_);obtain ⟨gb1,hgb1⟩:∃ g_,w.heap.size=g_:=⟨_,rfl⟩;refine Qq Qs gb1 hgb1 rfl rfl ?_;intro w24 hb_ hB_ hs_;have GEb1:Hid (w.heap.size≤gb1):=hid (by have:=HL.out.size;omega);replace HL:=hid (HL.out.trans (hb_.mono GEb1.out));have BKb1:=hid hB_;clear hb_ hB_ hs_ hgb1)
   |(go_at_call 66;clear k25;refine (QD.c a0 a1 false _ A6.out).mono ?_;rintro e_ w' ⟨rfl,rfl⟩)
   |(go_at_call 67;clear k26;refine (QG.c t3 t4 t5 _ A23.out).mono ?_;rintro e_ w27 ⟨rfl,hb_⟩;replace BKb1:=hid (BKb1.out.below hb_ BKb1.out.lt);replace HL:=hid (HL.out.trans (hb_.mono HL.out.size));clear hb_)
   |((with_reducible refine Qf (t:=75) (p:=6) rfl ?_);refine Qg Qs gb1 0 #[Ii 0,Ii 0,Ii 0] #[Ii t3,Ii t4,Ii t5] #[Ii t3,Ii t4,Ii t5] BKb1.out rfl (by simp) (by intro v_ hv_;simp at hv_;rcases hv_ with rfl|rfl|rfl <;> first|rfl) rfl rfl _ _ rfl rfl rfl ?_;intro w28 ho_ hB_;replace HL:=hid (ho_.below HL.out GEb1.out);replace BKb1:=hid hB_;clear ho_ hB_))
  (try simp only [Act.put,sI,sZ,sS])
  refine bodyPost_ret (v:=.agg #[Ii t3,Ii t4,Ii t5]) (Jz Qs rfl _ gb1 #[Ii t3,Ii t4,Ii t5] BKb1.out rfl rfl) rfl ?_
  exact ⟨by first|rfl|(simp;done)|(simp [*];done),HL.out⟩
def JA.f(a0 a1:ByteArray):Option (Bool):=if (a0.size:Int)≥(a1.size:Int) then (if 0≤(a1.size:Int) then (if (a1.size:Int)≤(a0.size:Int) then (some ((a0.extract 0 a1.size).toList==a1.toList)) else (none)) else (none)) else (some false)
theorem JA.c(a0 a1:ByteArray)(r1:Bool)(w:World)(h:JA.f a0 a1=some r1):
 Calls Tryz.prog 119 #[.string a0,.string a1] w fun e w'=>e=.returned (.bool r1)∧w=w':=by
 have H:(if (a0.size:Int)≥(a1.size:Int) then (if 0≤(a1.size:Int) then (if (a1.size:Int)≤(a0.size:Int) then (some ((a0.extract 0 a1.size).toList==a1.toList)) else (none)) else (none)) else (some false))=some r1:=h
 clear h
 by_cases c1:(a0.size:Int)≥(a1.size:Int)
 ·
  rw [if_pos c1] at H
  have c1b0:decide ((a1.size:Int)≤(a0.size:Int))=true:=decide_eq_true c1
  have c1b1:decide (a1.size≤a0.size)=true:=decide_eq_true (Int.ofNat_le.mp c1)
  have hc1:=hid c1
  clear c1
  by_cases c2:0≤(a1.size:Int)
  ·
   rw [if_pos c2] at H
   have c2b0:decide (0≤(a1.size:Int))=true:=decide_eq_true c2
   have c2b1:decide (0≤a1.size)=true:=decide_eq_true (by omega)
   have hc2:=hid c2
   clear c2
   by_cases c3:(a1.size:Int)≤(a0.size:Int)
   ·
    rw [if_pos c3] at H
    have c3b0:decide ((a1.size:Int)≤(a0.size:Int))=true:=decide_eq_true c3
    have c3b1:decide (a1.size≤a0.size)=true:=decide_eq_true (Int.ofNat_le.mp c3)
    have hc3:=hid c3
    clear c3
    obtain rfl:=Option.some.inj H
    clear H
    go_enter Tryz.func119,Tryz.ntmps119
    go_wp2_with (first
     |((with_reducible refine Qa (N:=14) rfl ?_);refine Qb (.string (a0.extract 0 a1.size)) (VD 9 JV a0 (a1.size:Int) hc2.out hc3.out _ _ rfl rfl rfl) rfl ?_))
    (try simp only [Act.put,sI,sZ,sS])
    go_ret
    exact ⟨by first|rfl|(simp;done)|(simp [*];done),rfl⟩
   ·
    rw [if_neg c3] at H
    exact absurd H (by simp)
  ·
   rw [if_neg c2] at H
   exact absurd H (by simp)
 ·
  rw [if_neg c1] at H
  have c1b0:decide ((a1.size:Int)≤(a0.size:Int))=false:=decide_eq_false c1
  have c1b1:decide (a1.size≤a0.size)=false:=decide_eq_false (fun h=>c1 (Int.ofNat_le.mpr h))
  have hc1:=hid c1
  clear c1
  obtain rfl:=Option.some.inj H
  clear H
  go_enter Tryz.func119,Tryz.ntmps119
  go_wp2_with fail
  (try simp only [Act.put,sI,sZ,sS])
  go_ret
  exact ⟨by first|rfl|(simp;done)|(simp [*];done),rfl⟩
def JJ.f(a0 a1:ByteArray):Option (Bool):=(JA.f a0 a1).bind fun t1=>(some t1)
theorem JJ.c(a0 a1:ByteArray)(r1:Bool)(w:World)(h:JJ.f a0 a1=some r1):
 Calls Tryz.prog 103 #[.string a0,.string a1] w fun e w'=>e=.returned (.bool r1)∧w=w':=by
 have H:((JA.f a0 a1).bind fun t1=>(some t1))=some r1:=h
 clear h
 replace H:=Ia H
 obtain ⟨t1,A2_,H⟩:=H
 have A2:=hid A2_
 clear A2_
 obtain rfl:=Option.some.inj H
 clear H
 go_enter Tryz.func103,Tryz.ntmps103
 have k3:=True.intro
 go_wp2_with (first
  |(go_at_call 119;clear k3;refine (JA.c a0 a1 t1 _ A2.out).mono ?_;rintro e_ w' ⟨rfl,rfl⟩))
 (try simp only [Act.put,sI,sZ,sS])
 go_ret
 exact ⟨by first|rfl|(simp;done)|(simp [*];done),rfl⟩
mutual
def QM.l0:Nat→List ByteArray→Int→Option (Bool)
 |0,_,_=>none
 |k+1,a0,x9_0=>if x9_0<(a0.length:Int) then (if 0≤x9_0 then (QM.l1 k a0 x9_0 0) else (none)) else (some (decide ((a0.length:Int)>0)))
def QM.l1:Nat→List ByteArray→Int→Int→Option (Bool)
 |0,_,_,_=>none
 |k+1,a0,x9_0,x16_1=>if x16_1<(a0.length:Int) then (if 0≤x16_1 then (if (nt a0 x9_0.toNat ByteArray.empty).toList=([]:List UInt8) then (some false) else (if x9_0=x16_1 then (QM.l1 k a0 x9_0 (wrap64 (x16_1+1))) else ((JJ.f (nt a0 x16_1.toNat ByteArray.empty) (nt a0 x9_0.toNat ByteArray.empty)).bind fun t10=>(if t10=true then (some false) else (QM.l1 k a0 x9_0 (wrap64 (x16_1+1))))))) else (none)) else (QM.l0 k a0 (wrap64 (x9_0+1)))
end
def QM.f(k:Nat)(a0:List ByteArray):Option (Bool):=QM.l0 k a0 0
theorem QM.c(k:Nat)(v0_:Value)(a0:List ByteArray)(r1:Bool)(w:World)(hs0:Sl w v0_ (a0.map Value.string))(h:QM.f k a0=some r1):
 Calls Tryz.prog 86 #[v0_] w fun e w'=>e=.returned (.bool r1)∧w=w':=by
 have SP0:=hid hs0
 clear hs0
 have H:(QM.l0 k a0 0)=some r1:=h
 clear h
 have H':=hid H
 clear H
 go_enter Tryz.func86,Tryz.ntmps86
 go_wp2_with (first
  |((with_reducible refine Qa (N:=8) rfl ?_);obtain ⟨A11,c12,hv13⟩:=SP0.out.shape;rw [List.length_map] at hv13;refine Qb (Ii (a0.length:Int)) (qA VE _ _ _ _ hv13 _ rfl rfl) rfl ?_;clear hv13))
 (try simp only [Act.put,sI,sZ,sS])
 go_loopg [9] k (fun kq v9 w'=>∃ (x9_0:Int),v9=Ii x9_0∧Hid (QM.l0 kq a0 x9_0=some r1)∧Hid (kq≤k)∧w=w')
 case atStart=>exact ⟨(0:Int),(by first|rfl|(simp;done)|(simp [*];done)),H',(hid (by first|omega|(omega))),rfl⟩
 case round=>
  clear H'
  skip
  obtain ⟨x9_0,rfl,HA,HK14,rfl⟩:=hrel
  cases gk with
  |zero=>exact absurd HA.out (by simp [QM.l0])
  |succ k15=>
   have H:=HA.out
   clear HA
   simp only [QM.l0] at H
   by_cases c16:x9_0<(a0.length:Int)
   ·
    rw [if_pos c16] at H
    have c16b0:decide (x9_0<(a0.length:Int))=true:=decide_eq_true c16
    have hc16:=hid c16
    clear c16
    by_cases c17:0≤x9_0
    ·
     rw [if_pos c17] at H
     have c17b0:decide (0≤x9_0)=true:=decide_eq_true c17
     have hc17:=hid c17
     clear c17
     have H':=hid H
     clear H
     go_wp2_with (first
      |((with_reducible refine Qa (N:=12) rfl ?_);obtain ⟨ad6,c18,hv19,HCad6_⟩:=Sl.get (l:=a0) (f:=Value.string) SP0.out ByteArray.empty (i:=x9_0) hc17.out hc16.out;have HCad6:=hid HCad6_;clear HCad6_;refine Qb (.pointer (some (ad6.add x9_0.toNat))) (XO _ _ x9_0 _ _ hv19 hc17.out hc16.out VE sT9 _ _ rfl rfl rfl) rfl ?_;have HVAad6:=hid hv19;clear hv19)
      |((with_reducible refine Qa (N:=13) rfl ?_);refine Qb (.string (nt a0 x9_0.toNat ByteArray.empty)) (ZB sT9 _ _ HCad6.out _ rfl rfl) rfl ?_)
      |((with_reducible refine Qa (N:=15) rfl ?_);obtain ⟨A20,c21,hv22⟩:=SP0.out.shape;rw [List.length_map] at hv22;refine Qb (Ii (a0.length:Int)) (qA VE _ _ _ _ hv22 _ rfl rfl) rfl ?_;clear hv22))
     (try simp only [Act.put,sI,sZ,sS])
     go_loopg [16] k15 (fun kq v16 w'=>∃ (x16_1:Int),v16=Ii x16_1∧Hid (QM.l1 kq a0 x9_0 x16_1=some r1)∧Hid (kq≤k15)∧w=w')
     case atStart=>exact ⟨(0:Int),(by first|rfl|(simp;done)|(simp [*];done)),H',(hid (by first|omega|(have:=HK14.out;omega))),rfl⟩
     case round=>
      clear H'
      skip
      obtain ⟨x16_1,rfl,HA,HK23,rfl⟩:=hrel
      cases gk with
      |zero=>exact absurd HA.out (by simp [QM.l1])
      |succ k24=>
       have H:=HA.out
       clear HA
       simp only [QM.l1] at H
       by_cases c25:x16_1<(a0.length:Int)
       ·
        rw [if_pos c25] at H
        have c25b0:decide (x16_1<(a0.length:Int))=true:=decide_eq_true c25
        have hc25:=hid c25
        clear c25
        by_cases c26:0≤x16_1
        ·
         rw [if_pos c26] at H
         have c26b0:decide (0≤x16_1)=true:=decide_eq_true c26
         have hc26:=hid c26
         clear c26
         by_cases c27:(nt a0 x9_0.toNat ByteArray.empty).toList=([]:List UInt8)
         ·
          rw [if_pos c27] at H
          have c27b0:((nt a0 x9_0.toNat ByteArray.empty).toList==([]:List UInt8))=true:=beq_iff_eq.mpr c27
          have c27b1:((nt a0 x9_0.toNat ByteArray.empty).toList != ([]:List UInt8))=false:=bne_eq_false_iff_eq.mpr c27
          have hc27:=hid c27
          clear c27
          obtain rfl:=Option.some.inj H
          clear H
          go_wp2_with (first
           |((with_reducible refine Qa (N:=19) rfl ?_);obtain ⟨ad9,c28,hv29,HCad9_⟩:=Sl.get (l:=a0) (f:=Value.string) SP0.out ByteArray.empty (i:=x16_1) hc26.out hc25.out;have HCad9:=hid HCad9_;clear HCad9_;refine Qb (.pointer (some (ad9.add x16_1.toNat))) (XO _ _ x16_1 _ _ hv29 hc26.out hc25.out VE sT9 _ _ rfl rfl rfl) rfl ?_;have HVAad9:=hid hv29;clear hv29)
           |((with_reducible refine Qa (N:=20) rfl ?_);refine Qb (.string (nt a0 x16_1.toNat ByteArray.empty)) (ZB sT9 _ _ HCad9.out _ rfl rfl) rfl ?_))
          (try simp only [Act.put,sI,sZ,sS])
          go_ret
          exact ⟨by first|rfl|(simp;done)|(simp [*];done),rfl⟩
         ·
          rw [if_neg c27] at H
          have c27b0:((nt a0 x9_0.toNat ByteArray.empty).toList==([]:List UInt8))=false:=beq_eq_false_iff_ne.mpr c27
          have c27b1:((nt a0 x9_0.toNat ByteArray.empty).toList != ([]:List UInt8))=true:=bne_iff_ne.mpr c27
          have hc27:=hid c27
          clear c27
          by_cases c30:x9_0=x16_1
          ·
           rw [if_pos c30] at H
           have c30b0:(x9_0==x16_1)=true:=beq_iff_eq.mpr c30
           have c30b1:(x9_0 != x16_1)=false:=bne_eq_false_iff_eq.mpr c30
           have hc30:=hid c30
           clear c30
           have H':=hid H
           clear H
           go_wp2_with (first
            |((with_reducible refine Qa (N:=19) rfl ?_);obtain ⟨ad9,c31,hv32,HCad9_⟩:=Sl.get (l:=a0) (f:=Value.string) SP0.out ByteArray.empty (i:=x16_1) hc26.out hc25.out;have HCad9:=hid HCad9_;clear HCad9_;refine Qb (.pointer (some (ad9.add x16_1.toNat))) (XO _ _ x16_1 _ _ hv32 hc26.out hc25.out VE sT9 _ _ rfl rfl rfl) rfl ?_;have HVAad9:=hid hv32;clear hv32)
            |((with_reducible refine Qa (N:=20) rfl ?_);refine Qb (.string (nt a0 x16_1.toNat ByteArray.empty)) (ZB sT9 _ _ HCad9.out _ rfl rfl) rfl ?_))
           (try simp only [Act.put,sI,sZ,sS])
           go_roundg k24
           case measure=>have:=HK14.out;have:=HK23.out;omega
           case rel=>exact ⟨wrap64 (x16_1+1),(by first|rfl|(simp;done)|(simp [*];done)),H',(hid (by first|omega|(have:=HK14.out;have:=HK23.out;omega))),rfl⟩
          ·
           rw [if_neg c30] at H
           have c30b0:(x9_0==x16_1)=false:=beq_eq_false_iff_ne.mpr c30
           have c30b1:(x9_0 != x16_1)=true:=bne_iff_ne.mpr c30
           have hc30:=hid c30
           clear c30
           replace H:=Ia H
           obtain ⟨t10,A33_,H⟩:=H
           have A33:=hid A33_
           clear A33_
           cases t10 with
           |true=>
            rw [if_pos rfl] at H
            obtain rfl:=Option.some.inj H
            clear H
            have k37:=True.intro
            go_wp2_with (first
             |((with_reducible refine Qa (N:=19) rfl ?_);obtain ⟨ad9,c35,hv36,HCad9_⟩:=Sl.get (l:=a0) (f:=Value.string) SP0.out ByteArray.empty (i:=x16_1) hc26.out hc25.out;have HCad9:=hid HCad9_;clear HCad9_;refine Qb (.pointer (some (ad9.add x16_1.toNat))) (XO _ _ x16_1 _ _ hv36 hc26.out hc25.out VE sT9 _ _ rfl rfl rfl) rfl ?_;have HVAad9:=hid hv36;clear hv36)
             |((with_reducible refine Qa (N:=20) rfl ?_);refine Qb (.string (nt a0 x16_1.toNat ByteArray.empty)) (ZB sT9 _ _ HCad9.out _ rfl rfl) rfl ?_)
             |(go_at_call 103;clear k37;refine (JJ.c (nt a0 x16_1.toNat ByteArray.empty) (nt a0 x9_0.toNat ByteArray.empty) true _ A33.out).mono ?_;rintro e_ w' ⟨rfl,rfl⟩))
            (try simp only [Act.put,sI,sZ,sS])
            go_ret
            exact ⟨by first|rfl|(simp;done)|(simp [*];done),rfl⟩
           |false=>
            rw [if_neg (show ¬ (false=true) by decide)] at H
            have H':=hid H
            clear H
            have k40:=True.intro
            go_wp2_with (first
             |((with_reducible refine Qa (N:=19) rfl ?_);obtain ⟨ad9,c38,hv39,HCad9_⟩:=Sl.get (l:=a0) (f:=Value.string) SP0.out ByteArray.empty (i:=x16_1) hc26.out hc25.out;have HCad9:=hid HCad9_;clear HCad9_;refine Qb (.pointer (some (ad9.add x16_1.toNat))) (XO _ _ x16_1 _ _ hv39 hc26.out hc25.out VE sT9 _ _ rfl rfl rfl) rfl ?_;have HVAad9:=hid hv39;clear hv39)
             |((with_reducible refine Qa (N:=20) rfl ?_);refine Qb (.string (nt a0 x16_1.toNat ByteArray.empty)) (ZB sT9 _ _ HCad9.out _ rfl rfl) rfl ?_)
             |(go_at_call 103;clear k40;refine (JJ.c (nt a0 x16_1.toNat ByteArray.empty) (nt a0 x9_0.toNat ByteArray.empty) false _ A33.out).mono ?_;rintro e_ w' ⟨rfl,rfl⟩))
            (try simp only [Act.put,sI,sZ,sS])
            go_roundg k24
            case measure=>have:=HK14.out;have:=HK23.out;omega
            case rel=>exact ⟨wrap64 (x16_1+1),(by first|rfl|(simp;done)|(simp [*];done)),H',(hid (by first|omega|(have:=HK14.out;have:=HK23.out;omega))),rfl⟩
        ·
         rw [if_neg c26] at H
         exact absurd H (by simp)
       ·
        rw [if_neg c25] at H
        have c25b0:decide (x16_1<(a0.length:Int))=false:=decide_eq_false c25
        have hc25:=hid c25
        clear c25
        have H':=hid H
        clear H
        go_wp2_with fail
        (try simp only [Act.put,sI,sZ,sS])
        go_roundg k24
        case measure=>have:=HK14.out;have:=HK23.out;omega
        case rel=>exact ⟨wrap64 (x9_0+1),(by first|rfl|(simp;done)|(simp [*];done)),H',(hid (by first|omega|(have:=HK14.out;have:=HK23.out;omega))),rfl⟩
    ·
     rw [if_neg c17] at H
     exact absurd H (by simp)
   ·
    rw [if_neg c16] at H
    have c16b0:decide (x9_0<(a0.length:Int))=false:=decide_eq_false c16
    have hc16:=hid c16
    clear c16
    obtain rfl:=Option.some.inj H
    clear H
    go_wp2_with (first
     |((with_reducible refine Qa (N:=36) rfl ?_);obtain ⟨A41,c42,hv43⟩:=SP0.out.shape;rw [List.length_map] at hv43;refine Qb (Ii (a0.length:Int)) (qA VE _ _ _ _ hv43 _ rfl rfl) rfl ?_;clear hv43))
    (try simp only [Act.put,sI,sZ,sS])
    go_ret
    exact ⟨by first|rfl|(simp;done)|(simp [*];done),rfl⟩
def QR.l0:Nat→ByteArray→Int→List ByteArray→Int→Int→Int→Int→Option (Int×Int×Int)
 |0,_,_,_,_,_,_,_=>none
 |k+1,a0,a1,a2,x25_0,yb4_0_0,yb4_1_0,yb4_2_0=>if x25_0<(a2.length:Int) then (if 0≤x25_0 then ((QN.f k a0 a1 (nt a2 x25_0.toNat ByteArray.empty)).bind fun bt11=>(if bt11.2.2=0 then (some (bt11.1,x25_0,bt11.2.2)) else (if bt11.1>yb4_0_0 then (QR.l0 k a0 a1 a2 (wrap64 (x25_0+1)) bt11.1 bt11.2.1 bt11.2.2) else (if bt11.2.2=1 then (QR.l0 k a0 a1 a2 (wrap64 (x25_0+1)) bt11.1 bt11.2.1 bt11.2.2) else (QR.l0 k a0 a1 a2 (wrap64 (x25_0+1)) yb4_0_0 yb4_1_0 yb4_2_0))))) else (none)) else (some (yb4_0_0,yb4_1_0,yb4_2_0))
def QR.f(k:Nat)(a0:ByteArray)(a1:Int)(a2:List ByteArray):Option (Int×Int×Int):=(QD.f a0 a1).bind fun t2=>(if t2=true then ((QM.f k a2).bind fun t3=>(if t3=true then (QR.l0 k a0 a1 a2 0 a1 0 2) else ((QG.f).bind fun bt15=>(some (bt15.1,bt15.2.1,bt15.2.2))))) else ((QG.f).bind fun bt18=>(some (bt18.1,bt18.2.1,bt18.2.2))))
theorem QR.c(k:Nat)(a0:ByteArray)(a1:Int)(v2_:Value)(a2:List ByteArray)(r1 r2 r3:Int)(w:World)(hs2:Sl w v2_ (a2.map Value.string))(h:QR.f k a0 a1 a2=some (r1,r2,r3)):
 Calls Tryz.prog 63 #[.string a0,Ii a1,v2_] w fun e w'=>e=.returned (.agg #[Ii r1,Ii r2,Ii r3])∧Below w.heap.size w w':=by
 have HL:=hid (Below.refl w.heap.size w)
 have SP2:=hid hs2
 clear hs2
 have H:((QD.f a0 a1).bind fun t2=>(if t2=true then ((QM.f k a2).bind fun t3=>(if t3=true then (QR.l0 k a0 a1 a2 0 a1 0 2) else ((QG.f).bind fun bt15=>(some (bt15.1,bt15.2.1,bt15.2.2))))) else ((QG.f).bind fun bt18=>(some (bt18.1,bt18.2.1,bt18.2.2)))))=some (r1,r2,r3):=h
 clear h
 replace H:=Ia H
 obtain ⟨t2,A21_,H⟩:=H
 have A21:=hid A21_
 clear A21_
 cases t2 with
 |true=>
  rw [if_pos rfl] at H
  have H':=hid H
  clear H
  go_enter Tryz.func63,Tryz.ntmps63
  have k25:=True.intro
  go_wp2_with (first
   |((with_reducible refine Qa (N:=6) rfl ?_);obtain ⟨gb1,hgb1⟩:∃ g_,w.heap.size=g_:=⟨_,rfl⟩;refine Qq Qs gb1 hgb1 rfl rfl ?_;intro w24 hb_ hB_ hs_;have GEb1:Hid (w.heap.size≤gb1):=hid (by have:=HL.out.size;omega);replace HL:=hid (HL.out.trans (hb_.mono GEb1.out));have BKb1:=hid hB_;clear hb_ hB_ hs_ hgb1)
   |(go_at_call 66;clear k25;refine (QD.c a0 a1 true _ A21.out).mono ?_;rintro e_ w' ⟨rfl,rfl⟩))
  (try simp only [Act.put,sI,sZ,sS])
  have H:=H'.out
  clear H'
  replace H:=Ia H
  obtain ⟨t3,A23_,H⟩:=H
  have A23:=hid A23_
  clear A23_
  cases t3 with
  |true=>
   rw [if_pos rfl] at H
   have H':=hid H
   clear H
   have k27:=True.intro
   go_wp2_with (first
    |(go_at_call 86;clear k27;refine (QM.c k (v2_) a2 true _ (SP2.out.below HL.out) A23.out).mono ?_;rintro e_ w' ⟨rfl,rfl⟩)
    |((with_reducible refine Qa (N:=22) rfl ?_);refine Qr (.agg #[Ii a1,Ii 0,Ii 2]) _ rfl rfl ?_ ?_;(intro ww_;simp only [List.map_toArray,List.map_cons,List.map_nil];kernel_rfl))
    |((with_reducible refine Qa (N:=7) rfl ?_);obtain ⟨gb4,hgb4⟩:∃ g_,w24.heap.size=g_:=⟨_,rfl⟩;refine Zl Qs #[Ii a1,Ii 0,Ii 2] gb4 hgb4 rfl (by intro v_ hv_;simp at hv_;rcases hv_ with rfl|rfl|rfl <;> first|rfl) rfl rfl 7 rfl _ _ rfl (fun _=>rfl) (fun _=>rfl) rfl ?_;intro w28 hb_ hB_ hs_;have GEb4:Hid (w.heap.size≤gb4):=hid (by have:=HL.out.size;omega);have NBb1_b4:Hid (gb1≠gb4):=hid (by have:=BKb1.out.lt;omega);have NBb4_b1:Hid (gb4≠gb1):=hid (by have:=NBb1_b4.out;omega);replace BKb1:=hid (BKb1.out.below hb_ (by rw [← hgb4];exact BKb1.out.lt));replace HL:=hid (HL.out.trans (hb_.mono GEb4.out));have BKb4:=hid hB_;clear hb_ hB_ hs_ hgb4)
    |((with_reducible refine Qa (N:=24) rfl ?_);obtain ⟨A29,c30,hv31⟩:=(SP2.out.below HL.out).shape;rw [List.length_map] at hv31;refine Qb (Ii (a2.length:Int)) (qA VE _ _ _ _ hv31 _ rfl rfl) rfl ?_;clear hv31))
   (try simp only [Act.put,sI,sZ,sS])
   go_loopg [25] k (fun kq v25 w'=>∃ (x25_0:Int) (yb4_0_0:Int) (yb4_1_0:Int) (yb4_2_0:Int),v25=Ii x25_0∧Hid (QR.l0 kq a0 a1 a2 x25_0 yb4_0_0 yb4_1_0 yb4_2_0=some (r1,r2,r3))∧Hid (kq≤k)∧Hid (Blk w' gb1 75 #[Ii 0,Ii 0,Ii 0])∧Hid (Blk w' gb4 75 #[Ii yb4_0_0,Ii yb4_1_0,Ii yb4_2_0])∧Hid (Below w.heap.size w w'))
   case atStart=>exact ⟨(0:Int),a1,(0:Int),(2:Int),(by first|rfl|(simp;done)|(simp [*];done)),H',(hid (by first|omega|(omega))),(hid (by exact BKb1.out)),(hid (by exact BKb4.out)),HL⟩
   case round=>
    clear H'
    clear HL BKb1 BKb4
    obtain ⟨x25_0,yb4_0_0,yb4_1_0,yb4_2_0,rfl,HA,HK32,BKb1,BKb4,HL⟩:=hrel
    cases gk with
    |zero=>exact absurd HA.out (by simp [QR.l0])
    |succ k33=>
     have H:=HA.out
     clear HA
     simp only [QR.l0] at H
     by_cases c34:x25_0<(a2.length:Int)
     ·
      rw [if_pos c34] at H
      have c34b0:decide (x25_0<(a2.length:Int))=true:=decide_eq_true c34
      have hc34:=hid c34
      clear c34
      by_cases c35:0≤x25_0
      ·
       rw [if_pos c35] at H
       have c35b0:decide (0≤x25_0)=true:=decide_eq_true c35
       have hc35:=hid c35
       clear c35
       replace H:=Ia H
       obtain ⟨⟨t11,t12,t13⟩,A36_,H⟩:=H
       dsimp only at H
       have A36:=hid A36_
       clear A36_
       by_cases c37:t13=0
       ·
        rw [if_pos c37] at H
        have c37b0:(t13==0)=true:=beq_iff_eq.mpr c37
        have c37b1:(t13 != 0)=false:=bne_eq_false_iff_eq.mpr c37
        have hc37:=hid c37
        clear c37
        simp only [Option.some.injEq,Prod.mk.injEq] at H
        obtain ⟨rfl,rfl,rfl⟩:=H
        have k40:=True.intro
        go_wp2_with (first
         |((with_reducible refine Qa (N:=28) rfl ?_);obtain ⟨ad10,c38,hv39,HCad10_⟩:=Sl.get (l:=a2) (f:=Value.string) (SP2.out.below HL.out) ByteArray.empty (i:=x25_0) hc35.out hc34.out;have HCad10:=hid HCad10_;clear HCad10_;refine Qb (.pointer (some (ad10.add x25_0.toNat))) (XO _ _ x25_0 _ _ hv39 hc35.out hc34.out VE sT9 _ _ rfl rfl rfl) rfl ?_;have HVAad10:=hid hv39;clear hv39)
         |((with_reducible refine Qa (N:=29) rfl ?_);refine Qb (.string (nt a2 x25_0.toNat ByteArray.empty)) (ZB sT9 _ _ HCad10.out _ rfl rfl) rfl ?_)
         |(go_at_call 64;clear k40;refine (QN.c k33 a0 a1 (nt a2 x25_0.toNat ByteArray.empty) t11 t12 t13 _ A36.out).mono ?_;rintro e_ w41 ⟨rfl,hb_⟩;replace BKb1:=hid (BKb1.out.below hb_ BKb1.out.lt);replace BKb4:=hid (BKb4.out.below hb_ BKb4.out.lt);replace HL:=hid (HL.out.trans (hb_.mono HL.out.size));clear hb_)
         |((with_reducible refine Qa (N:=10) rfl ?_);obtain ⟨gb14,hgb14⟩:∃ g_,w41.heap.size=g_:=⟨_,rfl⟩;refine Zl Qs #[Ii t11,Ii t12,Ii t13] gb14 hgb14 rfl (by intro v_ hv_;simp at hv_;rcases hv_ with rfl|rfl|rfl <;> first|rfl) rfl rfl 10 rfl _ _ rfl (fun _=>rfl) (fun _=>rfl) rfl ?_;intro w42 hb_ hB_ hs_;have GEb14:Hid (w.heap.size≤gb14):=hid (by have:=HL.out.size;omega);have NBb1_b14:Hid (gb1≠gb14):=hid (by have:=BKb1.out.lt;omega);have NBb14_b1:Hid (gb14≠gb1):=hid (by have:=NBb1_b14.out;omega);replace BKb1:=hid (BKb1.out.below hb_ (by rw [← hgb14];exact BKb1.out.lt));have NBb4_b14:Hid (gb4≠gb14):=hid (by have:=BKb4.out.lt;omega);have NBb14_b4:Hid (gb14≠gb4):=hid (by have:=NBb4_b14.out;omega);replace BKb4:=hid (BKb4.out.below hb_ (by rw [← hgb14];exact BKb4.out.lt));replace HL:=hid (HL.out.trans (hb_.mono GEb14.out));have BKb14:=hid hB_;clear hb_ hB_ hs_ hgb14)
         |((with_reducible refine Qa (N:=35) rfl ?_);refine Qb (Pg gb14 2) (Qc 75 2 (Pg gb14 0) (Pg gb14 2) (Js gb14) _ rfl rfl) rfl ?_)
         |((with_reducible refine Qa (N:=36) rfl ?_);refine Qb (Ii t13) (Qd Zk gb14 (2) (Ii t13) (#[Ii t11,Ii t12,Ii t13]) BKb14.out rfl _ rfl rfl) rfl ?_)
         |((with_reducible refine Qa (N:=39) rfl ?_);refine Qb (Pg gb14 1) (Qc 75 1 (Pg gb14 0) (Pg gb14 1) (Ka gb14) _ rfl rfl) rfl ?_)
         |((with_reducible refine Qf (t:=3) (p:=39) rfl ?_);refine QH sT3 gb14 (1) (Ii x25_0) #[Ii t11,Ii t12,Ii t13] #[Ii t11,Ii x25_0,Ii t13] BKb14.out (by simp) rfl rfl rfl rfl _ _ rfl rfl rfl ?_;intro w43 ho_ hB_;replace BKb1:=hid (BKb1.out.off ho_ NBb1_b14.out);replace BKb4:=hid (BKb4.out.off ho_ NBb4_b14.out);replace HL:=hid (ho_.below HL.out GEb14.out);replace BKb14:=hid hB_;clear ho_ hB_)
         |((with_reducible refine Qa (N:=40) rfl ?_);refine Qb (.agg #[Ii t11,Ii x25_0,Ii t13]) (QI Qs gb14 0 #[Ii t11,Ii x25_0,Ii t13] #[Ii t11,Ii x25_0,Ii t13] BKb14.out (by simp) rfl _ rfl rfl) rfl ?_)
         |((with_reducible refine Qf (t:=75) (p:=6) rfl ?_);refine Qg Qs gb1 0 #[Ii 0,Ii 0,Ii 0] #[Ii t11,Ii x25_0,Ii t13] #[Ii t11,Ii x25_0,Ii t13] BKb1.out rfl (by simp) (by intro v_ hv_;simp at hv_;rcases hv_ with rfl|rfl|rfl <;> first|rfl) rfl rfl _ _ rfl rfl rfl ?_;intro w44 ho_ hB_;replace BKb4:=hid (BKb4.out.off ho_ NBb4_b1.out);replace BKb14:=hid (BKb14.out.off ho_ NBb14_b1.out);replace HL:=hid (ho_.below HL.out GEb1.out);replace BKb1:=hid hB_;clear ho_ hB_))
        (try simp only [Act.put,sI,sZ,sS])
        refine bodyPost_ret (v:=.agg #[Ii t11,Ii x25_0,Ii t13]) (Jz Qs rfl _ gb1 #[Ii t11,Ii x25_0,Ii t13] BKb1.out rfl rfl) rfl ?_
        exact ⟨by first|rfl|(simp;done)|(simp [*];done),HL.out⟩
       ·
        rw [if_neg c37] at H
        have c37b0:(t13==0)=false:=beq_eq_false_iff_ne.mpr c37
        have c37b1:(t13 != 0)=true:=bne_iff_ne.mpr c37
        have hc37:=hid c37
        clear c37
        by_cases c45:t11>yb4_0_0
        ·
         rw [if_pos c45] at H
         have c45b0:decide (yb4_0_0<t11)=true:=decide_eq_true c45
         have hc45:=hid c45
         clear c45
         have H':=hid H
         clear H
         have k48:=True.intro
         go_wp2_with (first
          |((with_reducible refine Qa (N:=28) rfl ?_);obtain ⟨ad10,c46,hv47,HCad10_⟩:=Sl.get (l:=a2) (f:=Value.string) (SP2.out.below HL.out) ByteArray.empty (i:=x25_0) hc35.out hc34.out;have HCad10:=hid HCad10_;clear HCad10_;refine Qb (.pointer (some (ad10.add x25_0.toNat))) (XO _ _ x25_0 _ _ hv47 hc35.out hc34.out VE sT9 _ _ rfl rfl rfl) rfl ?_;have HVAad10:=hid hv47;clear hv47)
          |((with_reducible refine Qa (N:=29) rfl ?_);refine Qb (.string (nt a2 x25_0.toNat ByteArray.empty)) (ZB sT9 _ _ HCad10.out _ rfl rfl) rfl ?_)
          |(go_at_call 64;clear k48;refine (QN.c k33 a0 a1 (nt a2 x25_0.toNat ByteArray.empty) t11 t12 t13 _ A36.out).mono ?_;rintro e_ w49 ⟨rfl,hb_⟩;replace BKb1:=hid (BKb1.out.below hb_ BKb1.out.lt);replace BKb4:=hid (BKb4.out.below hb_ BKb4.out.lt);replace HL:=hid (HL.out.trans (hb_.mono HL.out.size));clear hb_)
          |((with_reducible refine Qa (N:=10) rfl ?_);obtain ⟨gb14,hgb14⟩:∃ g_,w49.heap.size=g_:=⟨_,rfl⟩;refine Zl Qs #[Ii t11,Ii t12,Ii t13] gb14 hgb14 rfl (by intro v_ hv_;simp at hv_;rcases hv_ with rfl|rfl|rfl <;> first|rfl) rfl rfl 10 rfl _ _ rfl (fun _=>rfl) (fun _=>rfl) rfl ?_;intro w50 hb_ hB_ hs_;have GEb14:Hid (w.heap.size≤gb14):=hid (by have:=HL.out.size;omega);have NBb1_b14:Hid (gb1≠gb14):=hid (by have:=BKb1.out.lt;omega);have NBb14_b1:Hid (gb14≠gb1):=hid (by have:=NBb1_b14.out;omega);replace BKb1:=hid (BKb1.out.below hb_ (by rw [← hgb14];exact BKb1.out.lt));have NBb4_b14:Hid (gb4≠gb14):=hid (by have:=BKb4.out.lt;omega);have NBb14_b4:Hid (gb14≠gb4):=hid (by have:=NBb4_b14.out;omega);replace BKb4:=hid (BKb4.out.below hb_ (by rw [← hgb14];exact BKb4.out.lt));replace HL:=hid (HL.out.trans (hb_.mono GEb14.out));have BKb14:=hid hB_;clear hb_ hB_ hs_ hgb14)
          |((with_reducible refine Qa (N:=35) rfl ?_);refine Qb (Pg gb14 2) (Qc 75 2 (Pg gb14 0) (Pg gb14 2) (Js gb14) _ rfl rfl) rfl ?_)
          |((with_reducible refine Qa (N:=36) rfl ?_);refine Qb (Ii t13) (Qd Zk gb14 (2) (Ii t13) (#[Ii t11,Ii t12,Ii t13]) BKb14.out rfl _ rfl rfl) rfl ?_)
          |((with_reducible refine Qa (N:=42) rfl ?_);refine Qb (Pg gb14 0) (Qc 75 0 (Pg gb14 0) (Pg gb14 0) (ZC gb14) _ rfl rfl) rfl ?_)
          |((with_reducible refine Qa (N:=43) rfl ?_);refine Qb (Ii t11) (Qd sT3 gb14 (0) (Ii t11) (#[Ii t11,Ii t12,Ii t13]) BKb14.out rfl _ rfl rfl) rfl ?_)
          |((with_reducible refine Qa (N:=44) rfl ?_);refine Qb (Pg gb4 0) (Qc 75 0 (Pg gb4 0) (Pg gb4 0) (ZC gb4) _ rfl rfl) rfl ?_)
          |((with_reducible refine Qa (N:=45) rfl ?_);refine Qb (Ii yb4_0_0) (Qd sT3 gb4 (0) (Ii yb4_0_0) (#[Ii yb4_0_0,Ii yb4_1_0,Ii yb4_2_0]) BKb4.out rfl _ rfl rfl) rfl ?_)
          |((with_reducible refine Qa (N:=52) rfl ?_);refine Qb (.agg #[Ii t11,Ii t12,Ii t13]) (QI Qs gb14 0 #[Ii t11,Ii t12,Ii t13] #[Ii t11,Ii t12,Ii t13] BKb14.out (by simp) rfl _ rfl rfl) rfl ?_)
          |((with_reducible refine Qf (t:=75) (p:=7) rfl ?_);refine Qg Qs gb4 0 #[Ii yb4_0_0,Ii yb4_1_0,Ii yb4_2_0] #[Ii t11,Ii t12,Ii t13] #[Ii t11,Ii t12,Ii t13] BKb4.out rfl (by simp) (by intro v_ hv_;simp at hv_;rcases hv_ with rfl|rfl|rfl <;> first|rfl) rfl rfl _ _ rfl rfl rfl ?_;intro w51 ho_ hB_;replace BKb1:=hid (BKb1.out.off ho_ NBb1_b4.out);replace BKb14:=hid (BKb14.out.off ho_ NBb14_b4.out);replace HL:=hid (ho_.below HL.out GEb4.out);replace BKb4:=hid hB_;clear ho_ hB_))
         (try simp only [Act.put,sI,sZ,sS])
         go_roundg k33
         case measure=>have:=HK32.out;omega
         case rel=>exact ⟨wrap64 (x25_0+1),t11,t12,t13,(by first|rfl|(simp;done)|(simp [*];done)),H',(hid (by first|omega|(have:=HK32.out;omega))),(hid (by exact BKb1.out)),(hid (by exact BKb4.out)),HL⟩
        ·
         rw [if_neg c45] at H
         have c45b0:decide (yb4_0_0<t11)=false:=decide_eq_false c45
         have hc45:=hid c45
         clear c45
         by_cases c52:t13=1
         ·
          rw [if_pos c52] at H
          have c52b0:(t13==1)=true:=beq_iff_eq.mpr c52
          have c52b1:(t13 != 1)=false:=bne_eq_false_iff_eq.mpr c52
          have hc52:=hid c52
          clear c52
          have H':=hid H
          clear H
          have k55:=True.intro
          go_wp2_with (first
           |((with_reducible refine Qa (N:=28) rfl ?_);obtain ⟨ad10,c53,hv54,HCad10_⟩:=Sl.get (l:=a2) (f:=Value.string) (SP2.out.below HL.out) ByteArray.empty (i:=x25_0) hc35.out hc34.out;have HCad10:=hid HCad10_;clear HCad10_;refine Qb (.pointer (some (ad10.add x25_0.toNat))) (XO _ _ x25_0 _ _ hv54 hc35.out hc34.out VE sT9 _ _ rfl rfl rfl) rfl ?_;have HVAad10:=hid hv54;clear hv54)
           |((with_reducible refine Qa (N:=29) rfl ?_);refine Qb (.string (nt a2 x25_0.toNat ByteArray.empty)) (ZB sT9 _ _ HCad10.out _ rfl rfl) rfl ?_)
           |(go_at_call 64;clear k55;refine (QN.c k33 a0 a1 (nt a2 x25_0.toNat ByteArray.empty) t11 t12 t13 _ A36.out).mono ?_;rintro e_ w56 ⟨rfl,hb_⟩;replace BKb1:=hid (BKb1.out.below hb_ BKb1.out.lt);replace BKb4:=hid (BKb4.out.below hb_ BKb4.out.lt);replace HL:=hid (HL.out.trans (hb_.mono HL.out.size));clear hb_)
           |((with_reducible refine Qa (N:=10) rfl ?_);obtain ⟨gb14,hgb14⟩:∃ g_,w56.heap.size=g_:=⟨_,rfl⟩;refine Zl Qs #[Ii t11,Ii t12,Ii t13] gb14 hgb14 rfl (by intro v_ hv_;simp at hv_;rcases hv_ with rfl|rfl|rfl <;> first|rfl) rfl rfl 10 rfl _ _ rfl (fun _=>rfl) (fun _=>rfl) rfl ?_;intro w57 hb_ hB_ hs_;have GEb14:Hid (w.heap.size≤gb14):=hid (by have:=HL.out.size;omega);have NBb1_b14:Hid (gb1≠gb14):=hid (by have:=BKb1.out.lt;omega);have NBb14_b1:Hid (gb14≠gb1):=hid (by have:=NBb1_b14.out;omega);replace BKb1:=hid (BKb1.out.below hb_ (by rw [← hgb14];exact BKb1.out.lt));have NBb4_b14:Hid (gb4≠gb14):=hid (by have:=BKb4.out.lt;omega);have NBb14_b4:Hid (gb14≠gb4):=hid (by have:=NBb4_b14.out;omega);replace BKb4:=hid (BKb4.out.below hb_ (by rw [← hgb14];exact BKb4.out.lt));replace HL:=hid (HL.out.trans (hb_.mono GEb14.out));have BKb14:=hid hB_;clear hb_ hB_ hs_ hgb14)
           |((with_reducible refine Qa (N:=35) rfl ?_);refine Qb (Pg gb14 2) (Qc 75 2 (Pg gb14 0) (Pg gb14 2) (Js gb14) _ rfl rfl) rfl ?_)
           |((with_reducible refine Qa (N:=36) rfl ?_);refine Qb (Ii t13) (Qd Zk gb14 (2) (Ii t13) (#[Ii t11,Ii t12,Ii t13]) BKb14.out rfl _ rfl rfl) rfl ?_)
           |((with_reducible refine Qa (N:=42) rfl ?_);refine Qb (Pg gb14 0) (Qc 75 0 (Pg gb14 0) (Pg gb14 0) (ZC gb14) _ rfl rfl) rfl ?_)
           |((with_reducible refine Qa (N:=43) rfl ?_);refine Qb (Ii t11) (Qd sT3 gb14 (0) (Ii t11) (#[Ii t11,Ii t12,Ii t13]) BKb14.out rfl _ rfl rfl) rfl ?_)
           |((with_reducible refine Qa (N:=44) rfl ?_);refine Qb (Pg gb4 0) (Qc 75 0 (Pg gb4 0) (Pg gb4 0) (ZC gb4) _ rfl rfl) rfl ?_)
           |((with_reducible refine Qa (N:=45) rfl ?_);refine Qb (Ii yb4_0_0) (Qd sT3 gb4 (0) (Ii yb4_0_0) (#[Ii yb4_0_0,Ii yb4_1_0,Ii yb4_2_0]) BKb4.out rfl _ rfl rfl) rfl ?_)
           |((with_reducible refine Qa (N:=48) rfl ?_);refine Qb (Pg gb14 2) (Qc 75 2 (Pg gb14 0) (Pg gb14 2) (Js gb14) _ rfl rfl) rfl ?_)
           |((with_reducible refine Qa (N:=49) rfl ?_);refine Qb (Ii t13) (Qd Zk gb14 (2) (Ii t13) (#[Ii t11,Ii t12,Ii t13]) BKb14.out rfl _ rfl rfl) rfl ?_)
           |((with_reducible refine Qa (N:=52) rfl ?_);refine Qb (.agg #[Ii t11,Ii t12,Ii t13]) (QI Qs gb14 0 #[Ii t11,Ii t12,Ii t13] #[Ii t11,Ii t12,Ii t13] BKb14.out (by simp) rfl _ rfl rfl) rfl ?_)
           |((with_reducible refine Qf (t:=75) (p:=7) rfl ?_);refine Qg Qs gb4 0 #[Ii yb4_0_0,Ii yb4_1_0,Ii yb4_2_0] #[Ii t11,Ii t12,Ii t13] #[Ii t11,Ii t12,Ii t13] BKb4.out rfl (by simp) (by intro v_ hv_;simp at hv_;rcases hv_ with rfl|rfl|rfl <;> first|rfl) rfl rfl _ _ rfl rfl rfl ?_;intro w58 ho_ hB_;replace BKb1:=hid (BKb1.out.off ho_ NBb1_b4.out);replace BKb14:=hid (BKb14.out.off ho_ NBb14_b4.out);replace HL:=hid (ho_.below HL.out GEb4.out);replace BKb4:=hid hB_;clear ho_ hB_))
          (try simp only [Act.put,sI,sZ,sS])
          go_roundg k33
          case measure=>have:=HK32.out;omega
          case rel=>exact ⟨wrap64 (x25_0+1),t11,t12,t13,(by first|rfl|(simp;done)|(simp [*];done)),H',(hid (by first|omega|(have:=HK32.out;omega))),(hid (by exact BKb1.out)),(hid (by exact BKb4.out)),HL⟩
         ·
          rw [if_neg c52] at H
          have c52b0:(t13==1)=false:=beq_eq_false_iff_ne.mpr c52
          have c52b1:(t13 != 1)=true:=bne_iff_ne.mpr c52
          have hc52:=hid c52
          clear c52
          have H':=hid H
          clear H
          have k61:=True.intro
          go_wp2_with (first
           |((with_reducible refine Qa (N:=28) rfl ?_);obtain ⟨ad10,c59,hv60,HCad10_⟩:=Sl.get (l:=a2) (f:=Value.string) (SP2.out.below HL.out) ByteArray.empty (i:=x25_0) hc35.out hc34.out;have HCad10:=hid HCad10_;clear HCad10_;refine Qb (.pointer (some (ad10.add x25_0.toNat))) (XO _ _ x25_0 _ _ hv60 hc35.out hc34.out VE sT9 _ _ rfl rfl rfl) rfl ?_;have HVAad10:=hid hv60;clear hv60)
           |((with_reducible refine Qa (N:=29) rfl ?_);refine Qb (.string (nt a2 x25_0.toNat ByteArray.empty)) (ZB sT9 _ _ HCad10.out _ rfl rfl) rfl ?_)
           |(go_at_call 64;clear k61;refine (QN.c k33 a0 a1 (nt a2 x25_0.toNat ByteArray.empty) t11 t12 t13 _ A36.out).mono ?_;rintro e_ w62 ⟨rfl,hb_⟩;replace BKb1:=hid (BKb1.out.below hb_ BKb1.out.lt);replace BKb4:=hid (BKb4.out.below hb_ BKb4.out.lt);replace HL:=hid (HL.out.trans (hb_.mono HL.out.size));clear hb_)
           |((with_reducible refine Qa (N:=10) rfl ?_);obtain ⟨gb14,hgb14⟩:∃ g_,w62.heap.size=g_:=⟨_,rfl⟩;refine Zl Qs #[Ii t11,Ii t12,Ii t13] gb14 hgb14 rfl (by intro v_ hv_;simp at hv_;rcases hv_ with rfl|rfl|rfl <;> first|rfl) rfl rfl 10 rfl _ _ rfl (fun _=>rfl) (fun _=>rfl) rfl ?_;intro w63 hb_ hB_ hs_;have GEb14:Hid (w.heap.size≤gb14):=hid (by have:=HL.out.size;omega);have NBb1_b14:Hid (gb1≠gb14):=hid (by have:=BKb1.out.lt;omega);have NBb14_b1:Hid (gb14≠gb1):=hid (by have:=NBb1_b14.out;omega);replace BKb1:=hid (BKb1.out.below hb_ (by rw [← hgb14];exact BKb1.out.lt));have NBb4_b14:Hid (gb4≠gb14):=hid (by have:=BKb4.out.lt;omega);have NBb14_b4:Hid (gb14≠gb4):=hid (by have:=NBb4_b14.out;omega);replace BKb4:=hid (BKb4.out.below hb_ (by rw [← hgb14];exact BKb4.out.lt));replace HL:=hid (HL.out.trans (hb_.mono GEb14.out));have BKb14:=hid hB_;clear hb_ hB_ hs_ hgb14)
           |((with_reducible refine Qa (N:=35) rfl ?_);refine Qb (Pg gb14 2) (Qc 75 2 (Pg gb14 0) (Pg gb14 2) (Js gb14) _ rfl rfl) rfl ?_)
           |((with_reducible refine Qa (N:=36) rfl ?_);refine Qb (Ii t13) (Qd Zk gb14 (2) (Ii t13) (#[Ii t11,Ii t12,Ii t13]) BKb14.out rfl _ rfl rfl) rfl ?_)
           |((with_reducible refine Qa (N:=42) rfl ?_);refine Qb (Pg gb14 0) (Qc 75 0 (Pg gb14 0) (Pg gb14 0) (ZC gb14) _ rfl rfl) rfl ?_)
           |((with_reducible refine Qa (N:=43) rfl ?_);refine Qb (Ii t11) (Qd sT3 gb14 (0) (Ii t11) (#[Ii t11,Ii t12,Ii t13]) BKb14.out rfl _ rfl rfl) rfl ?_)
           |((with_reducible refine Qa (N:=44) rfl ?_);refine Qb (Pg gb4 0) (Qc 75 0 (Pg gb4 0) (Pg gb4 0) (ZC gb4) _ rfl rfl) rfl ?_)
           |((with_reducible refine Qa (N:=45) rfl ?_);refine Qb (Ii yb4_0_0) (Qd sT3 gb4 (0) (Ii yb4_0_0) (#[Ii yb4_0_0,Ii yb4_1_0,Ii yb4_2_0]) BKb4.out rfl _ rfl rfl) rfl ?_)
           |((with_reducible refine Qa (N:=48) rfl ?_);refine Qb (Pg gb14 2) (Qc 75 2 (Pg gb14 0) (Pg gb14 2) (Js gb14) _ rfl rfl) rfl ?_)
           |((with_reducible refine Qa (N:=49) rfl ?_);refine Qb (Ii t13) (Qd Zk gb14 (2) (Ii t13) (#[Ii t11,Ii t12,Ii t13]) BKb14.out rfl _ rfl rfl) rfl ?_))
          (try simp only [Act.put,sI,sZ,sS])
          go_roundg k33
          case measure=>have:=HK32.out;omega
          case rel=>exact ⟨wrap64 (x25_0+1),yb4_0_0,yb4_1_0,yb4_2_0,(by first|rfl|(simp;done)|(simp [*];done)),H',(hid (by first|omega|(have:=HK32.out;omega))),(hid (by exact BKb1.out)),(hid (by exact BKb4.out)),HL⟩
      ·
       rw [if_neg c35] at H
       exact absurd H (by simp)
     ·
      rw [if_neg c34] at H
      have c34b0:decide (x25_0<(a2.length:Int))=false:=decide_eq_false c34
      have hc34:=hid c34
      clear c34
      simp only [Option.some.injEq,Prod.mk.injEq] at H
      obtain ⟨rfl,rfl,rfl⟩:=H
      go_wp2_with (first
       |((with_reducible refine Qa (N:=54) rfl ?_);refine Qb (.agg #[Ii yb4_0_0,Ii yb4_1_0,Ii yb4_2_0]) (QI Qs gb4 0 #[Ii yb4_0_0,Ii yb4_1_0,Ii yb4_2_0] #[Ii yb4_0_0,Ii yb4_1_0,Ii yb4_2_0] BKb4.out (by simp) rfl _ rfl rfl) rfl ?_)
       |((with_reducible refine Qf (t:=75) (p:=6) rfl ?_);refine Qg Qs gb1 0 #[Ii 0,Ii 0,Ii 0] #[Ii yb4_0_0,Ii yb4_1_0,Ii yb4_2_0] #[Ii yb4_0_0,Ii yb4_1_0,Ii yb4_2_0] BKb1.out rfl (by simp) (by intro v_ hv_;simp at hv_;rcases hv_ with rfl|rfl|rfl <;> first|rfl) rfl rfl _ _ rfl rfl rfl ?_;intro w64 ho_ hB_;replace BKb4:=hid (BKb4.out.off ho_ NBb4_b1.out);replace HL:=hid (ho_.below HL.out GEb1.out);replace BKb1:=hid hB_;clear ho_ hB_))
      (try simp only [Act.put,sI,sZ,sS])
      refine bodyPost_ret (v:=.agg #[Ii yb4_0_0,Ii yb4_1_0,Ii yb4_2_0]) (Jz Qs rfl _ gb1 #[Ii yb4_0_0,Ii yb4_1_0,Ii yb4_2_0] BKb1.out rfl rfl) rfl ?_
      exact ⟨by first|rfl|(simp;done)|(simp [*];done),HL.out⟩
  |false=>
   rw [if_neg (show ¬ (false=true) by decide)] at H
   replace H:=Ia H
   obtain ⟨⟨t15,t16,t17⟩,A65_,H⟩:=H
   dsimp only at H
   have A65:=hid A65_
   clear A65_
   simp only [Option.some.injEq,Prod.mk.injEq] at H
   obtain ⟨rfl,rfl,rfl⟩:=H
   have k66:=True.intro
   have k67:=True.intro
   go_wp2_with (first
    |(go_at_call 86;clear k66;refine (QM.c k (v2_) a2 false _ (SP2.out.below HL.out) A23.out).mono ?_;rintro e_ w' ⟨rfl,rfl⟩)
    |(go_at_call 67;clear k67;refine (QG.c t15 t16 t17 _ A65.out).mono ?_;rintro e_ w68 ⟨rfl,hb_⟩;replace BKb1:=hid (BKb1.out.below hb_ BKb1.out.lt);replace HL:=hid (HL.out.trans (hb_.mono HL.out.size));clear hb_)
    |((with_reducible refine Qf (t:=75) (p:=6) rfl ?_);refine Qg Qs gb1 0 #[Ii 0,Ii 0,Ii 0] #[Ii t15,Ii t16,Ii t17] #[Ii t15,Ii t16,Ii t17] BKb1.out rfl (by simp) (by intro v_ hv_;simp at hv_;rcases hv_ with rfl|rfl|rfl <;> first|rfl) rfl rfl _ _ rfl rfl rfl ?_;intro w69 ho_ hB_;replace HL:=hid (ho_.below HL.out GEb1.out);replace BKb1:=hid hB_;clear ho_ hB_))
   (try simp only [Act.put,sI,sZ,sS])
   refine bodyPost_ret (v:=.agg #[Ii t15,Ii t16,Ii t17]) (Jz Qs rfl _ gb1 #[Ii t15,Ii t16,Ii t17] BKb1.out rfl rfl) rfl ?_
   exact ⟨by first|rfl|(simp;done)|(simp [*];done),HL.out⟩
 |false=>
  rw [if_neg (show ¬ (false=true) by decide)] at H
  replace H:=Ia H
  obtain ⟨⟨t18,t19,t20⟩,A70_,H⟩:=H
  dsimp only at H
  have A70:=hid A70_
  clear A70_
  simp only [Option.some.injEq,Prod.mk.injEq] at H
  obtain ⟨rfl,rfl,rfl⟩:=H
  go_enter Tryz.func63,Tryz.ntmps63
  have k72:=True.intro
  have k73:=True.intro
  go_wp2_with (first
   |((with_reducible refine Qa (N:=6) rfl ?_);obtain ⟨gb1,hgb1⟩:∃ g_,w.heap.size=g_:=⟨_,rfl⟩;refine Qq Qs gb1 hgb1 rfl rfl ?_;intro w71 hb_ hB_ hs_;have GEb1:Hid (w.heap.size≤gb1):=hid (by have:=HL.out.size;omega);replace HL:=hid (HL.out.trans (hb_.mono GEb1.out));have BKb1:=hid hB_;clear hb_ hB_ hs_ hgb1)
   |(go_at_call 66;clear k72;refine (QD.c a0 a1 false _ A21.out).mono ?_;rintro e_ w' ⟨rfl,rfl⟩)
   |(go_at_call 67;clear k73;refine (QG.c t18 t19 t20 _ A70.out).mono ?_;rintro e_ w74 ⟨rfl,hb_⟩;replace BKb1:=hid (BKb1.out.below hb_ BKb1.out.lt);replace HL:=hid (HL.out.trans (hb_.mono HL.out.size));clear hb_)
   |((with_reducible refine Qf (t:=75) (p:=6) rfl ?_);refine Qg Qs gb1 0 #[Ii 0,Ii 0,Ii 0] #[Ii t18,Ii t19,Ii t20] #[Ii t18,Ii t19,Ii t20] BKb1.out rfl (by simp) (by intro v_ hv_;simp at hv_;rcases hv_ with rfl|rfl|rfl <;> first|rfl) rfl rfl _ _ rfl rfl rfl ?_;intro w75 ho_ hB_;replace HL:=hid (ho_.below HL.out GEb1.out);replace BKb1:=hid hB_;clear ho_ hB_))
  (try simp only [Act.put,sI,sZ,sS])
  refine bodyPost_ret (v:=.agg #[Ii t18,Ii t19,Ii t20]) (Jz Qs rfl _ gb1 #[Ii t18,Ii t19,Ii t20] BKb1.out rfl rfl) rfl ?_
  exact ⟨by first|rfl|(simp;done)|(simp [*];done),HL.out⟩
end Go.Proofs.YtaipghemddjecaaGreatDoor
