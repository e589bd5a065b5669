import Derived.Test.YtaipghemddjecaaGreatDoorMiy
import Derived.Test.YtaipghemddjecaaGreatDoorProg
import Derived.Test.YtaipghemddjecaaGreatDoorL1wy
import Derived.Test.YtaipghemddjecaaGreatDoorL2wy
import Derived.Test.YtaipghemddjecaaGreatDoorS2wy
namespace Go.Proofs.YtaipghemddjecaaGreatDoor
set_option maxHeartbeats 40000000
set_option maxRecDepth 100000
open Go.RowKit
set_option linter.unusedVariables false
set_option linter.unusedSimpArgs false
theorem Qck(w:World):(isAgg 64).run Tryz.prog w=.ok true w:=by kernel_rfl
theorem QaH(w:World):(sizeOf 64).run Tryz.prog w=.ok 8 w:=by kernel_rfl
theorem QaI(w:World):(zeroValue 64).run Tryz.prog w=.ok (.agg (av Value.string (List.replicate 8 (⟨#[]⟩:ByteArray)))) w:=by kernel_rfl
theorem QfO:AggT Tryz.prog 64 8 (av Value.string (List.replicate 8 (⟨#[]⟩:ByteArray))):=⟨Qck,QaH,QaI,by first|rfl|decide⟩
theorem Qcl(w:World):(isAgg 66).run Tryz.prog w=.ok true w:=by kernel_rfl
theorem QaJ(w:World):(sizeOf 66).run Tryz.prog w=.ok 3 w:=by kernel_rfl
theorem QaK(w:World):(zeroValue 66).run Tryz.prog w=.ok (.agg (av Value.string (List.replicate 3 (⟨#[]⟩:ByteArray)))) w:=by kernel_rfl
theorem QfP:AggT Tryz.prog 66 3 (av Value.string (List.replicate 3 (⟨#[]⟩:ByteArray))):=⟨Qcl,QaJ,QaK,by first|rfl|decide⟩
def VG(x:Int×Int×Int×Bool):List Value:=[Ii x.1,Ii x.2.1,Ii x.2.2.1,.bool x.2.2.2]
theorem xL(x:Int×Int×Int×Bool):(VG x).length=4:=rfl
theorem QgE:Tryz.prog.underlying 64=some (.array 8 9):=by kernel_rfl
theorem QgF:Tryz.prog.underlying 66=some (.array 3 9):=by kernel_rfl
theorem qx:(Tryz.prog.info? 9).map (fun i=>(i.zero,i.size,i.bytes))=some (some (.string ⟨#[]⟩),1,16):=by kernel_rfl
theorem xr:ElemT Tryz.prog 60 9 16:=⟨by kernel_rfl,by
 obtain ⟨i,h1,h2,h3,h4⟩:=info_parts qx
 exact ⟨i,_,h1,h2,h3,h4,rfl⟩⟩
theorem kV:(Tryz.prog.info? 28).map (fun i=>(i.zero,i.size,i.bytes))=some (some (.agg #[Ii 0,Ii 0,Ii 0,.bool false]),4,32):=by kernel_rfl
theorem QeZ:ElemN Tryz.prog 110 28 4 32:=⟨by kernel_rfl,by
 obtain ⟨i,h1,h2,h3,h4⟩:=info_parts kV
 exact ⟨i,_,h1,h2,h3,h4,rfl⟩,by decide⟩
theorem Qfa:Tryz.prog.underlying 110=some (.slice 28):=by kernel_rfl
def Xg.f:Option ((List ByteArray)):=some [ByteArray.empty,(⟨#[]⟩:ByteArray),(⟨#[115]⟩:ByteArray),(⟨#[114]⟩:ByteArray),(⟨#[115,101,109,105,45,114]⟩:ByteArray),(⟨#[104]⟩:ByteArray),(⟨#[115,101,114,45,104]⟩:ByteArray),(⟨#[115,101,114,45]⟩:ByteArray)]
theorem Xg.c(r1:List ByteArray)(w:World)(h:Xg.f=some r1):
 Calls Tryz.prog 31 #[] w fun e w'=>e=.returned (.agg (av Value.string r1))∧r1.length=8∧Below w.heap.size w w':=by
 have HL:=hid (Below.refl w.heap.size w)
 have H:(some [ByteArray.empty,(⟨#[]⟩:ByteArray),(⟨#[115]⟩:ByteArray),(⟨#[114]⟩:ByteArray),(⟨#[115,101,109,105,45,114]⟩:ByteArray),(⟨#[104]⟩:ByteArray),(⟨#[115,101,114,45,104]⟩:ByteArray),(⟨#[115,101,114,45]⟩:ByteArray)])=some r1:=h
 clear h
 obtain rfl:=Option.some.inj H
 clear H
 go_enter Tryz.func31,Tryz.ntmps31
 go_wp2_with (first
  |((with_reducible refine Qa (N:=0) rfl ?_);obtain ⟨gb1,hgb1⟩:∃ g_,w.heap.size=g_:=⟨_,rfl⟩;refine Qq QfO gb1 hgb1 rfl rfl ?_;intro w2 hb_ hB_ hs_;have GEb1:Hid (w.heap.size≤gb1):=hid (by have:=HL.out.size;omega);replace HL:=hid (HL.out.trans (hb_.mono GEb1.out));have BKb1:=hid hB_;clear hb_ hB_ hs_ hgb1)
  |((with_reducible refine Qa (N:=1) rfl ?_);refine Qr (.agg (av Value.string [ByteArray.empty,(⟨#[]⟩:ByteArray),(⟨#[115]⟩:ByteArray),(⟨#[114]⟩:ByteArray),(⟨#[115,101,109,105,45,114]⟩:ByteArray),(⟨#[104]⟩:ByteArray),(⟨#[115,101,114,45,104]⟩:ByteArray),(⟨#[115,101,114,45]⟩:ByteArray)])) _ rfl rfl ?_ ?_;(intro ww_;simp only [List.map_toArray,List.map_cons,List.map_nil];kernel_rfl))
  |((with_reducible refine Qf (t:=64) (p:=0) rfl ?_);refine Qg QfO gb1 0 (av Value.string (List.replicate 8 (⟨#[]⟩:ByteArray))) (av Value.string [ByteArray.empty,(⟨#[]⟩:ByteArray),(⟨#[115]⟩:ByteArray),(⟨#[114]⟩:ByteArray),(⟨#[115,101,109,105,45,114]⟩:ByteArray),(⟨#[104]⟩:ByteArray),(⟨#[115,101,114,45,104]⟩:ByteArray),(⟨#[115,101,114,45]⟩:ByteArray)]) (av Value.string [ByteArray.empty,(⟨#[]⟩:ByteArray),(⟨#[115]⟩:ByteArray),(⟨#[114]⟩:ByteArray),(⟨#[115,101,109,105,45,114]⟩:ByteArray),(⟨#[104]⟩:ByteArray),(⟨#[115,101,114,45,104]⟩:ByteArray),(⟨#[115,101,114,45]⟩:ByteArray)]) BKb1.out (by rw [show (av Value.string [ByteArray.empty,(⟨#[]⟩:ByteArray),(⟨#[115]⟩:ByteArray),(⟨#[114]⟩:ByteArray),(⟨#[115,101,109,105,45,114]⟩:ByteArray),(⟨#[104]⟩:ByteArray),(⟨#[115,101,114,45,104]⟩:ByteArray),(⟨#[115,101,114,45]⟩:ByteArray)])=av Value.string [ByteArray.empty,(⟨#[]⟩:ByteArray),(⟨#[115]⟩:ByteArray),(⟨#[114]⟩:ByteArray),(⟨#[115,101,109,105,45,114]⟩:ByteArray),(⟨#[104]⟩:ByteArray),(⟨#[115,101,114,45,104]⟩:ByteArray),(⟨#[115,101,114,45]⟩:ByteArray)] from rfl,Jh];exact (by first|rfl|(simp only [List.length_set,List.length_replicate,Qh,List.length_cons,List.length_nil];done)|(simp [Qh];done))) (ZX (by first|rfl|(simp only [List.length_set,List.length_replicate,Qh,List.length_cons,List.length_nil];done)|(simp [Qh];done))) (ZE (fun _=>rfl)) (ZL (by first|rfl|(simp only [List.length_set,List.length_replicate,Qh,List.length_cons,List.length_nil];done)|(simp [Qh];done)) (by first|rfl|(simp only [List.length_set,List.length_replicate,Qh,List.length_cons,List.length_nil];done)|(simp [Qh];done))) rfl _ _ rfl rfl rfl ?_;intro w3 ho_ hB_;replace HL:=hid (ho_.below HL.out GEb1.out);replace BKb1:=hid hB_;clear ho_ hB_))
 (try simp only [Act.put,sI,sZ,sS])
 refine bodyPost_ret (v:=.agg (av Value.string [ByteArray.empty,(⟨#[]⟩:ByteArray),(⟨#[115]⟩:ByteArray),(⟨#[114]⟩:ByteArray),(⟨#[115,101,109,105,45,114]⟩:ByteArray),(⟨#[104]⟩:ByteArray),(⟨#[115,101,114,45,104]⟩:ByteArray),(⟨#[115,101,114,45]⟩:ByteArray)])) (Jz QfO rfl _ gb1 (av Value.string [ByteArray.empty,(⟨#[]⟩:ByteArray),(⟨#[115]⟩:ByteArray),(⟨#[114]⟩:ByteArray),(⟨#[115,101,109,105,45,114]⟩:ByteArray),(⟨#[104]⟩:ByteArray),(⟨#[115,101,114,45,104]⟩:ByteArray),(⟨#[115,101,114,45]⟩:ByteArray)]) BKb1.out (by rw [show (av Value.string [ByteArray.empty,(⟨#[]⟩:ByteArray),(⟨#[115]⟩:ByteArray),(⟨#[114]⟩:ByteArray),(⟨#[115,101,109,105,45,114]⟩:ByteArray),(⟨#[104]⟩:ByteArray),(⟨#[115,101,114,45,104]⟩:ByteArray),(⟨#[115,101,114,45]⟩:ByteArray)])=av Value.string [ByteArray.empty,(⟨#[]⟩:ByteArray),(⟨#[115]⟩:ByteArray),(⟨#[114]⟩:ByteArray),(⟨#[115,101,109,105,45,114]⟩:ByteArray),(⟨#[104]⟩:ByteArray),(⟨#[115,101,114,45,104]⟩:ByteArray),(⟨#[115,101,114,45]⟩:ByteArray)] from rfl,Jh];exact (by first|rfl|(simp only [List.length_set,List.length_replicate,Qh,List.length_cons,List.length_nil];done)|(simp [Qh];done))) rfl) rfl ?_
 exact ⟨by first|rfl|(simp;done)|(simp [*];done),(by first|rfl|(simp only [List.length_set,List.length_replicate,Qh,List.length_cons,List.length_nil];done)|(simp [Qh];done)),HL.out⟩
def Xh.f:Option ((List ByteArray)):=some [ByteArray.empty,(⟨#[35]⟩:ByteArray),(⟨#[61]⟩:ByteArray)]
theorem Xh.c(r1:List ByteArray)(w:World)(h:Xh.f=some r1):
 Calls Tryz.prog 32 #[] w fun e w'=>e=.returned (.agg (av Value.string r1))∧r1.length=3∧Below w.heap.size w w':=by
 have HL:=hid (Below.refl w.heap.size w)
 have H:(some [ByteArray.empty,(⟨#[35]⟩:ByteArray),(⟨#[61]⟩:ByteArray)])=some r1:=h
 clear h
 obtain rfl:=Option.some.inj H
 clear H
 go_enter Tryz.func32,Tryz.ntmps32
 go_wp2_with (first
  |((with_reducible refine Qa (N:=0) rfl ?_);obtain ⟨gb1,hgb1⟩:∃ g_,w.heap.size=g_:=⟨_,rfl⟩;refine Qq QfP gb1 hgb1 rfl rfl ?_;intro w2 hb_ hB_ hs_;have GEb1:Hid (w.heap.size≤gb1):=hid (by have:=HL.out.size;omega);replace HL:=hid (HL.out.trans (hb_.mono GEb1.out));have BKb1:=hid hB_;clear hb_ hB_ hs_ hgb1)
  |((with_reducible refine Qa (N:=1) rfl ?_);refine Qr (.agg (av Value.string [ByteArray.empty,(⟨#[35]⟩:ByteArray),(⟨#[61]⟩:ByteArray)])) _ rfl rfl ?_ ?_;(intro ww_;simp only [List.map_toArray,List.map_cons,List.map_nil];kernel_rfl))
  |((with_reducible refine Qf (t:=66) (p:=0) rfl ?_);refine Qg QfP gb1 0 (av Value.string (List.replicate 3 (⟨#[]⟩:ByteArray))) (av Value.string [ByteArray.empty,(⟨#[35]⟩:ByteArray),(⟨#[61]⟩:ByteArray)]) (av Value.string [ByteArray.empty,(⟨#[35]⟩:ByteArray),(⟨#[61]⟩:ByteArray)]) BKb1.out (by rw [show (av Value.string [ByteArray.empty,(⟨#[35]⟩:ByteArray),(⟨#[61]⟩:ByteArray)])=av Value.string [ByteArray.empty,(⟨#[35]⟩:ByteArray),(⟨#[61]⟩:ByteArray)] from rfl,Jh];exact (by first|rfl|(simp only [List.length_set,List.length_replicate,Qh,List.length_cons,List.length_nil];done)|(simp [Qh];done))) (ZX (by first|rfl|(simp only [List.length_set,List.length_replicate,Qh,List.length_cons,List.length_nil];done)|(simp [Qh];done))) (ZE (fun _=>rfl)) (ZL (by first|rfl|(simp only [List.length_set,List.length_replicate,Qh,List.length_cons,List.length_nil];done)|(simp [Qh];done)) (by first|rfl|(simp only [List.length_set,List.length_replicate,Qh,List.length_cons,List.length_nil];done)|(simp [Qh];done))) rfl _ _ rfl rfl rfl ?_;intro w3 ho_ hB_;replace HL:=hid (ho_.below HL.out GEb1.out);replace BKb1:=hid hB_;clear ho_ hB_))
 (try simp only [Act.put,sI,sZ,sS])
 refine bodyPost_ret (v:=.agg (av Value.string [ByteArray.empty,(⟨#[35]⟩:ByteArray),(⟨#[61]⟩:ByteArray)])) (Jz QfP rfl _ gb1 (av Value.string [ByteArray.empty,(⟨#[35]⟩:ByteArray),(⟨#[61]⟩:ByteArray)]) BKb1.out (by rw [show (av Value.string [ByteArray.empty,(⟨#[35]⟩:ByteArray),(⟨#[61]⟩:ByteArray)])=av Value.string [ByteArray.empty,(⟨#[35]⟩:ByteArray),(⟨#[61]⟩:ByteArray)] from rfl,Jh];exact (by first|rfl|(simp only [List.length_set,List.length_replicate,Qh,List.length_cons,List.length_nil];done)|(simp [Qh];done))) rfl) rfl ?_
 exact ⟨by first|rfl|(simp;done)|(simp [*];done),(by first|rfl|(simp only [List.length_set,List.length_replicate,Qh,List.length_cons,List.length_nil];done)|(simp [Qh];done)),HL.out⟩
mutual
def QO.l0:Nat→List ByteArray→List (Int×Int×Int×Bool)→Int→Option ((List ByteArray)×(List (Int×Int×Int×Bool)))
 |0,_,_,_=>none
 |k+1,x2_0,x3_0,x6_0=>if x6_0<8 then (QO.l1 k x6_0 x2_0 x3_0 0) else (if x2_0.length<8796093022208 then (if x3_0.length<4398046511104 then (some (x2_0++[(⟨#[100,105,97,32]⟩:ByteArray)],x3_0++[(8,0,0,false)])) else (none)) else (none))
def QO.l1:Nat→Int→List ByteArray→List (Int×Int×Int×Bool)→Int→Option ((List ByteArray)×(List (Int×Int×Int×Bool)))
 |0,_,_,_,_=>none
 |k+1,x6_0,x2_1,x3_1,x9_1=>if x9_1<3 then (if x6_0>0 then (if x9_1>0 then ((Xg.f).bind fun t23=>(if 0≤x6_0 then (if x6_0<8 then ((Xh.f).bind fun t24=>(if 0≤x9_1 then (if (nt t23 x6_0.toNat ByteArray.empty).size+(nt t24 x9_1.toNat ByteArray.empty).size≤9223372036854775807 then (if x2_1.length<8796093022208 then (if x3_1.length<4398046511104 then (QO.l1 k x6_0 (x2_1++[(nt t23 x6_0.toNat ByteArray.empty)++(nt t24 x9_1.toNat ByteArray.empty)]) (x3_1++[(x6_0,x9_1,0,false)]) (wrap64 (x9_1+1))) else (none)) else (none)) else (none)) else (none))) else (none)) else (none))) else (QO.l1 k x6_0 x2_1 x3_1 (wrap64 (x9_1+1)))) else (QO.l1 k x6_0 x2_1 x3_1 (wrap64 (x9_1+1)))) else (QO.l0 k x2_1 x3_1 (wrap64 (x6_0+1)))
end
def QO.f(k:Nat):Option ((List ByteArray)×(List (Int×Int×Int×Bool))):=QO.l0 k ([]:List ByteArray) ([]:List (Int×Int×Int×Bool)) 0
def QO.post(r1:List ByteArray)(r2:List (Int×Int×Int×Bool))(w:World)(e:Ending)(w':World):Prop:=∃ (u_r1 u_r2:Value),e=.returned (.tuple #[u_r1,u_r2])∧Own w' w.heap.size 9 (u_r1) (r1.map Value.string)∧OwnN w' w.heap.size 28 4 (u_r2) r2.length (r2.flatMap VG)∧Below w.heap.size w w'
theorem QO.c(k:Nat)(r1:List ByteArray)(r2:List (Int×Int×Int×Bool))(w:World)(h:QO.f k=some (r1,r2)):
 Calls Tryz.prog 74 #[] w (QO.post r1 r2 w):=by
 have HL:=hid (Below.refl w.heap.size w)
 have H:(QO.l0 k ([]:List ByteArray) ([]:List (Int×Int×Int×Bool)) 0)=some (r1,r2):=h
 clear h
 have H':=hid H
 clear H
 go_enter Tryz.func74,Tryz.ntmps74
 go_wp2_with fail
 (try simp only [Act.put,sI,sZ,sS])
 go_loopg [2,3,6] k (fun kq v2 v3 v6 w'=>∃ (x2_0:List ByteArray) (ux2_0:Value) (x3_0:List (Int×Int×Int×Bool)) (ux3_0:Value) (x6_0:Int),ux2_0=v2∧ux3_0=v3∧v6=Ii x6_0∧Hid (QO.l0 kq x2_0 x3_0 x6_0=some (r1,r2))∧Hid (kq≤k)∧Hid (Own w' w.heap.size 9 (ux2_0) (x2_0.map Value.string))∧Hid (OwnN w' w.heap.size 28 4 (ux3_0) x3_0.length (x3_0.flatMap VG))∧Hid (Below w.heap.size w w'))
 case atStart=>exact ⟨([]:List ByteArray),(.slice none 0 0),([]:List (Int×Int×Int×Bool)),(.slice none 0 0),(0:Int),(by first|rfl|(simp;done)|(simp [*];done)),(by first|rfl|(simp;done)|(simp [*];done)),(by first|rfl|(simp;done)|(simp [*];done)),H',(hid (by first|omega|(omega))),(hid (Own.nil _ _ _)),(hid (OwnN.nil _ _ _ _)),HL⟩
 case round=>
  clear H'
  clear HL
  obtain ⟨x2_0,ux2_0,x3_0,ux3_0,x6_0,rfl,rfl,rfl,HA,HK33,SWx2_0,SWx3_0,HL⟩:=hrel
  cases gk with
  |zero=>exact absurd HA.out (by simp [QO.l0])
  |succ k34=>
   have H:=HA.out
   clear HA
   simp only [QO.l0] at H
   by_cases c35:x6_0<8
   ·
    rw [if_pos c35] at H
    have c35b0:decide (x6_0<8)=true:=decide_eq_true c35
    have hc35:=hid c35
    clear c35
    have H':=hid H
    clear H
    go_wp2_with fail
    (try simp only [Act.put,sI,sZ,sS])
    go_loopg [2,3,9] k34 (fun kq v2 v3 v9 w'=>∃ (x2_1:List ByteArray) (ux2_1:Value) (x3_1:List (Int×Int×Int×Bool)) (ux3_1:Value) (x9_1:Int),ux2_1=v2∧ux3_1=v3∧v9=Ii x9_1∧Hid (QO.l1 kq x6_0 x2_1 x3_1 x9_1=some (r1,r2))∧Hid (kq≤k34)∧Hid (Own w' w.heap.size 9 (ux2_1) (x2_1.map Value.string))∧Hid (OwnN w' w.heap.size 28 4 (ux3_1) x3_1.length (x3_1.flatMap VG))∧Hid (Below w.heap.size w w'))
    case atStart=>exact ⟨x2_0,(ux2_0),x3_0,(ux3_0),(0:Int),(by first|rfl|(simp;done)|(simp [*];done)),(by first|rfl|(simp;done)|(simp [*];done)),(by first|rfl|(simp;done)|(simp [*];done)),H',(hid (by first|omega|(have:=HK33.out;omega))),SWx2_0,SWx3_0,HL⟩
    case round=>
     clear H'
     clear HL SWx2_0 SWx3_0
     obtain ⟨x2_1,ux2_1,x3_1,ux3_1,x9_1,rfl,rfl,rfl,HA,HK36,SWx2_1,SWx3_1,HL⟩:=hrel
     cases gk with
     |zero=>exact absurd HA.out (by simp [QO.l1])
     |succ k37=>
      have H:=HA.out
      clear HA
      simp only [QO.l1] at H
      by_cases c38:x9_1<3
      ·
       rw [if_pos c38] at H
       have c38b0:decide (x9_1<3)=true:=decide_eq_true c38
       have hc38:=hid c38
       clear c38
       by_cases c39:x6_0>0
       ·
        rw [if_pos c39] at H
        have c39b0:decide (0<x6_0)=true:=decide_eq_true c39
        have hc39:=hid c39
        clear c39
        by_cases c40:x9_1>0
        ·
         rw [if_pos c40] at H
         have c40b0:decide (0<x9_1)=true:=decide_eq_true c40
         have hc40:=hid c40
         clear c40
         replace H:=Ia H
         obtain ⟨t23,A41_,H⟩:=H
         have A41:=hid A41_
         clear A41_
         by_cases c42:0≤x6_0
         ·
          rw [if_pos c42] at H
          have c42b0:decide (0≤x6_0)=true:=decide_eq_true c42
          have hc42:=hid c42
          clear c42
          by_cases c43:x6_0<8
          ·
           rw [if_pos c43] at H
           have c43b0:decide (x6_0<8)=true:=decide_eq_true c43
           have hc43:=hid c43
           clear c43
           replace H:=Ia H
           obtain ⟨t24,A44_,H⟩:=H
           have A44:=hid A44_
           clear A44_
           by_cases c45:0≤x9_1
           ·
            rw [if_pos c45] at H
            have c45b0:decide (0≤x9_1)=true:=decide_eq_true c45
            have hc45:=hid c45
            clear c45
            by_cases c46:(nt t23 x6_0.toNat ByteArray.empty).size+(nt t24 x9_1.toNat ByteArray.empty).size≤9223372036854775807
            ·
             rw [if_pos c46] at H
             have hc46:=hid c46
             clear c46
             by_cases c47:x2_1.length<8796093022208
             ·
              rw [if_pos c47] at H
              have c47b0:decide (x2_1.length<8796093022208)=true:=decide_eq_true c47
              have hc47:=hid c47
              clear c47
              by_cases c48:x3_1.length<4398046511104
              ·
               rw [if_pos c48] at H
               have c48b0:decide (x3_1.length<4398046511104)=true:=decide_eq_true c48
               have hc48:=hid c48
               clear c48
               have H':=hid H
               clear H
               go_wp2_with fail
               (try simp only [Act.put,sI,sZ,sS])
               have WR64:=Zs
               have WR32:=ZA
               have WR8:=Ko
               have WRU:=ZY
               refine QL (fun z_=>Below w.heap.size w z_∧Own z_ w.heap.size 9 (ux2_1) (x2_1.map Value.string)∧OwnN z_ w.heap.size 28 4 (ux3_1) x3_1.length (x3_1.flatMap VG)∧True) [1,4,8,9] [(0,2),(2,2),(5,2),(1,0),(3,2),(4,0),(6,2),(7,2),(8,0),(9,0),(10,2)] (by kernel_rfl) (by kernel_rfl) (by kernel_rfl) rfl ?_
               intro w49 hb_
               replace SWx2_1:=hid (SWx2_1.out.below hb_)
               replace SWx3_1:=hid (SWx3_1.out.below hb_)
               replace HL:=hid (HL.out.trans (hb_.mono HL.out.size))
               clear hb_
               refine Qe (ux2_1) rfl (fun z_=>Qo (.tmp 2) (.inl rfl) _ rfl) rfl rfl ?_
               intro t_ k_;simp only [sI,sZ,sS] at k_;subst k_
               refine Qe (Ii x6_0) rfl (fun z_=>Qo (.tmp 4) (.inl rfl) _ rfl) rfl rfl ?_
               intro t_ k_;simp only [sI,sZ,sS] at k_;subst k_
               refine Qe (Ii x9_1) rfl (fun z_=>Qo (.tmp 5) (.inl rfl) _ rfl) rfl rfl ?_
               intro t_ k_;simp only [sI,sZ,sS] at k_;subst k_
               refine QV rfl (fun Q'_ hQ_=>?_)
               refine Jr 31 #[] (by go_simp) rfl ((Xg.c t23 _ A41.out).mono ?_)
               rintro e_ w51 ⟨rfl,ln_t23,hb_⟩
               have LN_t23:=hid ln_t23
               clear ln_t23
               replace SWx2_1:=hid (SWx2_1.out.below hb_)
               replace SWx3_1:=hid (SWx3_1.out.below hb_)
               replace HL:=hid (HL.out.trans (hb_.mono HL.out.size))
               clear hb_
               refine ⟨_,rfl,?_⟩
               refine hQ_ _ _ (fun h_=>absurd h_ (by decide)) ?_
               clear hQ_ Q'_
               simp only [Act.put,sI,sZ,sS]
               refine Qe (.string (nt t23 x6_0.toNat ByteArray.empty)) rfl (fun z_=>XW 64 (.agg (av Value.string t23)) (Ii x6_0) (.string (nt t23 x6_0.toNat ByteArray.empty)) (fun w_=>Vn 9 QgE sT9 t23 LN_t23.out ByteArray.empty x6_0 hc42.out hc43.out w_) _ _ rfl rfl rfl) rfl rfl ?_
               intro t_ k_;simp only [sI,sZ,sS] at k_;subst k_
               refine QV rfl (fun Q'_ hQ_=>?_)
               refine Jr 32 #[] (by go_simp) rfl ((Xh.c t24 _ A44.out).mono ?_)
               rintro e_ w53 ⟨rfl,ln_t24,hb_⟩
               have LN_t24:=hid ln_t24
               clear ln_t24
               replace SWx2_1:=hid (SWx2_1.out.below hb_)
               replace SWx3_1:=hid (SWx3_1.out.below hb_)
               replace HL:=hid (HL.out.trans (hb_.mono HL.out.size))
               clear hb_
               refine ⟨_,rfl,?_⟩
               refine hQ_ _ _ (fun h_=>absurd h_ (by decide)) ?_
               clear hQ_ Q'_
               simp only [Act.put,sI,sZ,sS]
               refine Qe (.string (nt t24 x9_1.toNat ByteArray.empty)) rfl (fun z_=>XW 66 (.agg (av Value.string t24)) (Ii x9_1) (.string (nt t24 x9_1.toNat ByteArray.empty)) (fun w_=>Vn 9 QgF sT9 t24 LN_t24.out ByteArray.empty x9_1 hc45.out hc38.out w_) _ _ rfl rfl rfl) rfl rfl ?_
               intro t_ k_;simp only [sI,sZ,sS] at k_;subst k_
               refine Qe (.string ((nt t23 x6_0.toNat ByteArray.empty)++(nt t24 x9_1.toNat ByteArray.empty))) rfl (fun z_=>Jy 9 (nt t23 x6_0.toNat ByteArray.empty) (nt t24 x9_1.toNat ByteArray.empty) hc46.out _ _ _ rfl rfl rfl) rfl rfl ?_
               intro t_ k_;simp only [sI,sZ,sS] at k_;subst k_
               refine QV rfl (fun Q'_ hQ_=>?_)
               (with_reducible refine Qa (N:=26) rfl ?_)
               obtain ⟨gb25,hgb25⟩:∃ g_,w53.heap.size=g_:=⟨_,rfl⟩
               refine VA sT9 (.string ((nt t23 x6_0.toNat ByteArray.empty)++(nt t24 x9_1.toNat ByteArray.empty))) gb25 hgb25 rfl _ rfl rfl (fun w_=>by kernel_rfl) ?_
               intro w54 hb_ hB_ hs_
               have GEb25:Hid (w.heap.size≤gb25):=hid (by have:=HL.out.size;omega)
               replace SWx2_1:=hid (SWx2_1.out.below (by rw [hgb25];exact hb_))
               replace SWx3_1:=hid (SWx3_1.out.below (by rw [hgb25];exact hb_))
               replace HL:=hid (HL.out.trans (hb_.mono GEb25.out))
               have BKb25:=hid hB_
               clear hb_ hB_ hs_ hgb25
               refine Qz ?_
               refine hQ_ _ _ (fun h_=>absurd h_ (by decide)) ?_
               clear hQ_ Q'_
               simp only [Act.put,sI,sZ,sS]
               refine QV rfl (fun Q'_ hQ_=>?_)
               refine KL xr w.heap.size (ux2_1) (x2_1.map Value.string) (.string ((nt t23 x6_0.toNat ByteArray.empty)++(nt t24 x9_1.toNat ByteArray.empty))) gb25 1 SWx2_1.out BKb25.out rfl (by have h_:=hc47.out;rw [List.length_map];omega) (by have h_:=hc47.out;rw [List.length_map];unfold maxLen;omega) HL.out.size rfl _ _ rfl rfl rfl ?_
               intro uo26 w55 ho_ hb_ hk_ hi_
               clear SWx2_1
               have SWo26:Hid (Own w55 w.heap.size 9 (uo26) ((x2_1++[(nt t23 x6_0.toNat ByteArray.empty)++(nt t24 x9_1.toNat ByteArray.empty)]).map Value.string)):=hid (by rw [List.map_append];exact ho_)
               replace SWx3_1:=hid (SWx3_1.out.move fun g_ cs_ _ hh_=>hk_ g_ _ cs_ (by decide) hh_)
               replace HL:=hid (HL.out.trans hb_)
               clear ho_ hb_ hk_ hi_ BKb25
               refine Qz ?_
               refine hQ_ _ _ (fun h_=>absurd h_ (by decide)) ?_
               clear hQ_ Q'_
               simp only [Act.put,sI,sZ,sS]
               refine Qe (uo26) rfl (fun z_=>Qo (.tmp 27) (.inr rfl) _ rfl) rfl rfl ?_
               intro t_ k_;simp only [sI,sZ,sS] at k_;subst k_
               refine JH ?_
               clear WR64 WR32 WR8 WRU
               have k59:=True.intro
               go_wp2_with (first
                |((with_reducible refine Qa (N:=31) rfl ?_);refine Qr (.agg #[Ii x6_0,Ii x9_1,Ii 0,.bool false]) _ rfl rfl ?_ ?_;(intro ww_;simp only [List.map_toArray,List.map_cons,List.map_nil];kernel_rfl))
                |((with_reducible refine Qa (N:=32) rfl ?_);obtain ⟨gb27,hgb27⟩:∃ g_,w55.heap.size=g_:=⟨_,rfl⟩;refine vR (e:=28) 1 #[Ii x6_0,Ii x9_1,Ii 0,.bool false] gb27 hgb27 rfl _ rfl (fun w_=>by (try simp only [List.map_toArray,List.map_cons,List.map_nil]);kernel_rfl) ?_;intro w57 hb_ hB_ hs_;have GEb27:Hid (w.heap.size≤gb27):=hid (by have:=HL.out.size;omega);replace SWx3_1:=hid (SWx3_1.out.below (by rw [hgb27];exact hb_));replace SWo26:=hid (SWo26.out.below (by rw [hgb27];exact hb_));replace HL:=hid (HL.out.trans (hb_.mono GEb27.out));have BKb27:=hid hB_;clear hb_ hB_ hs_ hgb27)
                |(at_builtin;clear k59;refine Qfb (len:=x3_1.length) QeZ w.heap.size (ux3_1) (x3_1.flatMap VG) (VG (x6_0,x9_1,0,false)) gb27 1 SWx3_1.out BKb27.out rfl (by intro u_ hu_;simp [VG] at hu_;rcases hu_ with rfl|rfl|rfl|rfl <;> rfl) (by have h_:=hc48.out;omega) (by have h_:=hc48.out;unfold maxLen;omega) HL.out.size rfl _ _ rfl rfl rfl ?_;intro uo28 w58 ho_ hb_ hk_ hi_;clear SWx3_1;have SWo28:Hid (OwnN w58 w.heap.size 28 4 (uo28) (x3_1++[(x6_0,x9_1,0,false)]).length ((x3_1++[(x6_0,x9_1,0,false)]).flatMap VG)):=hid (OwnN.snoc ho_);replace SWo26:=hid (SWo26.out.move fun g_ cs_ _ hh_=>hk_ g_ _ cs_ (by decide) hh_);replace HL:=hid (HL.out.trans hb_);clear ho_ hb_ hk_ hi_ BKb27))
               (try simp only [Act.put,sI,sZ,sS])
               go_roundg k37
               case measure=>have:=HK33.out;have:=HK36.out;omega
               case rel=>exact ⟨x2_1++[(nt t23 x6_0.toNat ByteArray.empty)++(nt t24 x9_1.toNat ByteArray.empty)],(uo26),x3_1++[(x6_0,x9_1,0,false)],(uo28),wrap64 (x9_1+1),(by first|rfl|(simp;done)|(simp [*];done)),(by first|rfl|(simp;done)|(simp [*];done)),(by first|rfl|(simp;done)|(simp [*];done)),H',(hid (by first|omega|(have:=HK33.out;have:=HK36.out;omega))),SWo26,SWo28,HL⟩
              ·
               rw [if_neg c48] at H
               exact absurd H (by simp)
             ·
              rw [if_neg c47] at H
              exact absurd H (by simp)
            ·
             rw [if_neg c46] at H
             exact absurd H (by simp)
           ·
            rw [if_neg c45] at H
            exact absurd H (by simp)
          ·
           rw [if_neg c43] at H
           exact absurd H (by simp)
         ·
          rw [if_neg c42] at H
          exact absurd H (by simp)
        ·
         rw [if_neg c40] at H
         have c40b0:decide (0<x9_1)=false:=decide_eq_false c40
         have hc40:=hid c40
         clear c40
         have H':=hid H
         clear H
         go_wp2_with fail
         (try simp only [Act.put,sI,sZ,sS])
         go_roundg k37
         case measure=>have:=HK33.out;have:=HK36.out;omega
         case rel=>exact ⟨x2_1,(ux2_1),x3_1,(ux3_1),wrap64 (x9_1+1),(by first|rfl|(simp;done)|(simp [*];done)),(by first|rfl|(simp;done)|(simp [*];done)),(by first|rfl|(simp;done)|(simp [*];done)),H',(hid (by first|omega|(have:=HK33.out;have:=HK36.out;omega))),SWx2_1,SWx3_1,HL⟩
       ·
        rw [if_neg c39] at H
        have c39b0:decide (0<x6_0)=false:=decide_eq_false c39
        have hc39:=hid c39
        clear c39
        have H':=hid H
        clear H
        go_wp2_with fail
        (try simp only [Act.put,sI,sZ,sS])
        go_roundg k37
        case measure=>have:=HK33.out;have:=HK36.out;omega
        case rel=>exact ⟨x2_1,(ux2_1),x3_1,(ux3_1),wrap64 (x9_1+1),(by first|rfl|(simp;done)|(simp [*];done)),(by first|rfl|(simp;done)|(simp [*];done)),(by first|rfl|(simp;done)|(simp [*];done)),H',(hid (by first|omega|(have:=HK33.out;have:=HK36.out;omega))),SWx2_1,SWx3_1,HL⟩
      ·
       rw [if_neg c38] at H
       have c38b0:decide (x9_1<3)=false:=decide_eq_false c38
       have hc38:=hid c38
       clear c38
       have H':=hid H
       clear H
       go_wp2_with fail
       (try simp only [Act.put,sI,sZ,sS])
       go_roundg k37
       case measure=>have:=HK33.out;have:=HK36.out;omega
       case rel=>exact ⟨x2_1,(ux2_1),x3_1,(ux3_1),wrap64 (x6_0+1),(by first|rfl|(simp;done)|(simp [*];done)),(by first|rfl|(simp;done)|(simp [*];done)),(by first|rfl|(simp;done)|(simp [*];done)),H',(hid (by first|omega|(have:=HK33.out;have:=HK36.out;omega))),SWx2_1,SWx3_1,HL⟩
   ·
    rw [if_neg c35] at H
    have c35b0:decide (x6_0<8)=false:=decide_eq_false c35
    have hc35:=hid c35
    clear c35
    by_cases c60:x2_0.length<8796093022208
    ·
     rw [if_pos c60] at H
     have c60b0:decide (x2_0.length<8796093022208)=true:=decide_eq_true c60
     have hc60:=hid c60
     clear c60
     by_cases c61:x3_0.length<4398046511104
     ·
      rw [if_pos c61] at H
      have c61b0:decide (x3_0.length<4398046511104)=true:=decide_eq_true c61
      have hc61:=hid c61
      clear c61
      simp only [Option.some.injEq,Prod.mk.injEq] at H
      obtain ⟨rfl,rfl⟩:=H
      have k64:=True.intro
      have k67:=True.intro
      go_wp2_with (first
       |((with_reducible refine Qa (N:=37) rfl ?_);obtain ⟨gb29,hgb29⟩:∃ g_,wr.heap.size=g_:=⟨_,rfl⟩;refine VA sT9 (.string (⟨#[100,105,97,32]⟩:ByteArray)) gb29 hgb29 rfl _ rfl rfl (fun w_=>by kernel_rfl) ?_;intro w62 hb_ hB_ hs_;have GEb29:Hid (w.heap.size≤gb29):=hid (by have:=HL.out.size;omega);replace SWx2_0:=hid (SWx2_0.out.below (by rw [hgb29];exact hb_));replace SWx3_0:=hid (SWx3_0.out.below (by rw [hgb29];exact hb_));replace HL:=hid (HL.out.trans (hb_.mono GEb29.out));have BKb29:=hid hB_;clear hb_ hB_ hs_ hgb29)
       |(at_builtin;clear k64;refine KL xr w.heap.size (ux2_0) (x2_0.map Value.string) (.string (⟨#[100,105,97,32]⟩:ByteArray)) gb29 1 SWx2_0.out BKb29.out rfl (by have h_:=hc60.out;rw [List.length_map];omega) (by have h_:=hc60.out;rw [List.length_map];unfold maxLen;omega) HL.out.size rfl _ _ rfl rfl rfl ?_;intro uo30 w63 ho_ hb_ hk_ hi_;clear SWx2_0;have SWo30:Hid (Own w63 w.heap.size 9 (uo30) ((x2_0++[(⟨#[100,105,97,32]⟩:ByteArray)]).map Value.string)):=hid (by rw [List.map_append];exact ho_);replace SWx3_0:=hid (SWx3_0.out.move fun g_ cs_ _ hh_=>hk_ g_ _ cs_ (by decide) hh_);replace HL:=hid (HL.out.trans hb_);clear ho_ hb_ hk_ hi_ BKb29)
       |((with_reducible refine Qa (N:=40) rfl ?_);refine Qr (.agg #[Ii 8,Ii 0,Ii 0,.bool false]) _ rfl rfl ?_ ?_;(intro ww_;simp only [List.map_toArray,List.map_cons,List.map_nil];kernel_rfl))
       |((with_reducible refine Qa (N:=41) rfl ?_);obtain ⟨gb31,hgb31⟩:∃ g_,w63.heap.size=g_:=⟨_,rfl⟩;refine vR (e:=28) 1 #[Ii 8,Ii 0,Ii 0,.bool false] gb31 hgb31 rfl _ rfl (fun w_=>by (try simp only [List.map_toArray,List.map_cons,List.map_nil]);kernel_rfl) ?_;intro w65 hb_ hB_ hs_;have GEb31:Hid (w.heap.size≤gb31):=hid (by have:=HL.out.size;omega);replace SWx3_0:=hid (SWx3_0.out.below (by rw [hgb31];exact hb_));replace SWo30:=hid (SWo30.out.below (by rw [hgb31];exact hb_));replace HL:=hid (HL.out.trans (hb_.mono GEb31.out));have BKb31:=hid hB_;clear hb_ hB_ hs_ hgb31)
       |(at_builtin;clear k67;refine Qfb (len:=x3_0.length) QeZ w.heap.size (ux3_0) (x3_0.flatMap VG) (VG (8,0,0,false)) gb31 1 SWx3_0.out BKb31.out rfl (by intro u_ hu_;simp [VG] at hu_;rcases hu_ with rfl|rfl|rfl|rfl <;> rfl) (by have h_:=hc61.out;omega) (by have h_:=hc61.out;unfold maxLen;omega) HL.out.size rfl _ _ rfl rfl rfl ?_;intro uo32 w66 ho_ hb_ hk_ hi_;clear SWx3_0;have SWo32:Hid (OwnN w66 w.heap.size 28 4 (uo32) (x3_0++[(8,0,0,false)]).length ((x3_0++[(8,0,0,false)]).flatMap VG)):=hid (OwnN.snoc ho_);replace SWo30:=hid (SWo30.out.move fun g_ cs_ _ hh_=>hk_ g_ _ cs_ (by decide) hh_);replace HL:=hid (HL.out.trans hb_);clear ho_ hb_ hk_ hi_ BKb31))
      (try simp only [Act.put,sI,sZ,sS])
      go_ret2
      exact ⟨_,_,rfl,(by exact SWo30.out),(by exact SWo32.out),HL.out⟩
     ·
      rw [if_neg c61] at H
      exact absurd H (by simp)
    ·
     rw [if_neg c60] at H
     exact absurd H (by simp)
def Zv.f(k:Nat)(a0:ByteArray)(a1:Int):Option (Int×Int×Int):=if a1<(a0.size:Int) then (if 0≤a1 then (if (bt a0 a1.toNat)=(bt (⟨#[46,53]⟩:ByteArray) 0) then ((QN.f k a0 a1 (⟨#[46,53]⟩:ByteArray)).bind fun bt2=>(some (bt2.1,1,bt2.2.2))) else (some (a1,0,0))) else (none)) else (some (a1,0,0))
theorem Zv.c(k:Nat)(a0:ByteArray)(a1 r1 r2 r3:Int)(w:World)(h:Zv.f k a0 a1=some (r1,r2,r3)):
 Calls Tryz.prog 75 #[.string a0,Ii a1] w fun e w'=>e=.returned (.agg #[Ii r1,Ii r2,Ii r3])∧Below w.heap.size w w':=by
 have HL:=hid (Below.refl w.heap.size w)
 have H:(if a1<(a0.size:Int) then (if 0≤a1 then (if (bt a0 a1.toNat)=(bt (⟨#[46,53]⟩:ByteArray) 0) then ((QN.f k a0 a1 (⟨#[46,53]⟩:ByteArray)).bind fun bt2=>(some (bt2.1,1,bt2.2.2))) else (some (a1,0,0))) else (none)) else (some (a1,0,0)))=some (r1,r2,r3):=h
 clear h
 by_cases c6:a1<(a0.size:Int)
 ·
  rw [if_pos c6] at H
  have c6b0:decide (a1<(a0.size:Int))=true:=decide_eq_true c6
  have hc6:=hid c6
  clear c6
  by_cases c7:0≤a1
  ·
   rw [if_pos c7] at H
   have c7b0:decide (0≤a1)=true:=decide_eq_true c7
   have hc7:=hid c7
   clear c7
   by_cases c8:(bt a0 a1.toNat)=(bt (⟨#[46,53]⟩:ByteArray) 0)
   ·
    rw [if_pos c8] at H
    have c8b0:((bt a0 a1.toNat)==(bt (⟨#[46,53]⟩:ByteArray) 0))=true:=beq_iff_eq.mpr c8
    have c8b1:((bt a0 a1.toNat) != (bt (⟨#[46,53]⟩:ByteArray) 0))=false:=bne_eq_false_iff_eq.mpr c8
    have hc8:=hid c8
    clear c8
    replace H:=Ia H
    obtain ⟨⟨t2,t3,t4⟩,A9_,H⟩:=H
    dsimp only at H
    have A9:=hid A9_
    clear A9_
    simp only [Option.some.injEq,Prod.mk.injEq] at H
    obtain ⟨rfl,rfl,rfl⟩:=H
    go_enter Tryz.func75,Tryz.ntmps75
    go_wp2_with (first
     |((with_reducible refine Qa (N:=4) rfl ?_);obtain ⟨gb1,hgb1⟩:∃ g_,w.heap.size=g_:=⟨_,rfl⟩;refine Qq Qs gb1 hgb1 rfl rfl ?_;intro w10 hb_ hB_ hs_;have GEb1:Hid (w.heap.size≤gb1):=hid (by have:=HL.out.size;omega);replace HL:=hid (HL.out.trans (hb_.mono GEb1.out));have BKb1:=hid hB_;clear hb_ hB_ hs_ hgb1))
    (try simp only [Act.put,sI,sZ,sS])
    have WR64:=Zs
    have WR32:=ZA
    have WR8:=Ko
    have WRU:=ZY
    refine Xb (by kernel_rfl) (by kernel_rfl) ?_
    refine QY (Ii a1) (fun z_ hc_=>Qo (.tmp 1) (.inl rfl) _ rfl) rfl rfl ?_
    intro t_ k_;simp only [sI,sZ,sS] at k_;subst k_
    refine QY (.string a0) (fun z_ hc_=>Qo (.tmp 0) (.inl rfl) _ rfl) rfl rfl ?_
    intro t_ k_;simp only [sI,sZ,sS] at k_;subst k_
    refine QY (Ii (a0.size:Int)) (fun z_ hc_=>by go_simp <;> (unfold wrap64;omega)) rfl rfl ?_
    intro t_ k_;simp only [sI,sZ,sS] at k_;subst k_
    refine QY (.bool true) (fun z_ hc_=>by go_simp <;> (unfold wrap64;omega)) rfl rfl ?_
    intro t_ k_;simp only [sI,sZ,sS] at k_;subst k_
    refine QY (.bool true) (fun z_ hc_=>Qo (.tmp 9) (.inl rfl) _ rfl) rfl rfl ?_
    intro t_ k_;simp only [sI,sZ,sS] at k_;subst k_
    refine QY (.string a0) (fun z_ hc_=>Qo (.tmp 0) (.inl rfl) _ rfl) rfl rfl ?_
    intro t_ k_;simp only [sI,sZ,sS] at k_;subst k_
    refine QY (Ii a1) (fun z_ hc_=>Qo (.tmp 1) (.inl rfl) _ rfl) rfl rfl ?_
    intro t_ k_;simp only [sI,sZ,sS] at k_;subst k_
    refine QY (.int .u8 (bt a0 a1.toNat)) (fun z_ hc_=>by obtain ⟨n_,hn_⟩:=hc_;exact XW 9 (.string a0) (Ii a1) (.int .u8 (bt a0 a1.toNat)) (KD a0 a1 hc7.out hc6.out) _ _ rfl rfl rfl) rfl rfl ?_
    intro t_ k_;simp only [sI,sZ,sS] at k_;subst k_
    refine QY (.int .u8 (bt (⟨#[46,53]⟩:ByteArray) 0)) (fun z_ hc_=>by obtain ⟨n_,hn_⟩:=hc_;exact XW 9 (.string (⟨#[46,53]⟩:ByteArray)) (Ii 0) (.int .u8 (bt (⟨#[46,53]⟩:ByteArray) 0)) (KD (⟨#[46,53]⟩:ByteArray) 0 (by omega) (by first|omega|decide)) _ _ rfl rfl rfl) rfl rfl ?_
    intro t_ k_;simp only [sI,sZ,sS] at k_;subst k_
    refine QY (.bool true) (fun z_ hc_=>by go_simp <;> (unfold wrap64;omega)) rfl rfl ?_
    intro t_ k_;simp only [sI,sZ,sS] at k_;subst k_
    refine QY (.bool true) (fun z_ hc_=>by go_simp <;> (unfold wrap64;omega)) rfl rfl ?_
    intro t_ k_;simp only [sI,sZ,sS] at k_;subst k_
    refine qg ?_
    rintro w8_ ⟨n_,rfl⟩
    replace BKb1:=hid (BKb1.out.below n_.below BKb1.out.lt)
    replace HL:=hid (HL.out.trans (n_.below.mono HL.out.size))
    generalize n_.world=w11 at *
    clear n_ WR64 WR32 WR8 WRU
    have k12:=True.intro
    go_wp2_with (first
     |(go_at_call 64;clear k12;refine (QN.c k a0 a1 (⟨#[46,53]⟩:ByteArray) t2 t3 t4 _ A9.out).mono ?_;rintro e_ w13 ⟨rfl,hb_⟩;replace BKb1:=hid (BKb1.out.below hb_ BKb1.out.lt);replace HL:=hid (HL.out.trans (hb_.mono HL.out.size));clear hb_)
     |((with_reducible refine Qa (N:=5) rfl ?_);obtain ⟨gb5,hgb5⟩:∃ g_,w13.heap.size=g_:=⟨_,rfl⟩;refine Zl Qs #[Ii t2,Ii t3,Ii t4] gb5 hgb5 rfl (by intro v_ hv_;simp at hv_;rcases hv_ with rfl|rfl|rfl <;> first|rfl) rfl rfl 5 rfl _ _ rfl (fun _=>rfl) (fun _=>rfl) rfl ?_;intro w14 hb_ hB_ hs_;have GEb5:Hid (w.heap.size≤gb5):=hid (by have:=HL.out.size;omega);have NBb1_b5:Hid (gb1≠gb5):=hid (by have:=BKb1.out.lt;omega);have NBb5_b1:Hid (gb5≠gb1):=hid (by have:=NBb1_b5.out;omega);replace BKb1:=hid (BKb1.out.below hb_ (by rw [← hgb5];exact BKb1.out.lt));replace HL:=hid (HL.out.trans (hb_.mono GEb5.out));have BKb5:=hid hB_;clear hb_ hB_ hs_ hgb5)
     |((with_reducible refine Qa (N:=20) rfl ?_);refine Qb (Pg gb5 1) (Qc 75 1 (Pg gb5 0) (Pg gb5 1) (Ka gb5) _ rfl rfl) rfl ?_)
     |((with_reducible refine Qf (t:=3) (p:=20) rfl ?_);refine QH sT3 gb5 (1) (Ii 1) #[Ii t2,Ii t3,Ii t4] #[Ii t2,Ii 1,Ii t4] BKb5.out (by simp) rfl rfl rfl rfl _ _ rfl rfl rfl ?_;intro w15 ho_ hB_;replace BKb1:=hid (BKb1.out.off ho_ NBb1_b5.out);replace HL:=hid (ho_.below HL.out GEb5.out);replace BKb5:=hid hB_;clear ho_ hB_)
     |((with_reducible refine Qa (N:=21) rfl ?_);refine Qb (.agg #[Ii t2,Ii 1,Ii t4]) (QI Qs gb5 0 #[Ii t2,Ii 1,Ii t4] #[Ii t2,Ii 1,Ii t4] BKb5.out (by simp) rfl _ rfl rfl) rfl ?_)
     |((with_reducible refine Qf (t:=75) (p:=4) rfl ?_);refine Qg Qs gb1 0 #[Ii 0,Ii 0,Ii 0] #[Ii t2,Ii 1,Ii t4] #[Ii t2,Ii 1,Ii t4] BKb1.out rfl (by simp) (by intro v_ hv_;simp at hv_;rcases hv_ with rfl|rfl|rfl <;> first|rfl) rfl rfl _ _ rfl rfl rfl ?_;intro w16 ho_ hB_;replace BKb5:=hid (BKb5.out.off ho_ NBb5_b1.out);replace HL:=hid (ho_.below HL.out GEb1.out);replace BKb1:=hid hB_;clear ho_ hB_))
    (try simp only [Act.put,sI,sZ,sS])
    refine bodyPost_ret (v:=.agg #[Ii t2,Ii 1,Ii t4]) (Jz Qs rfl _ gb1 #[Ii t2,Ii 1,Ii t4] BKb1.out rfl rfl) rfl ?_
    exact ⟨by first|rfl|(simp;done)|(simp [*];done),HL.out⟩
   ·
    rw [if_neg c8] at H
    have c8b0:((bt a0 a1.toNat)==(bt (⟨#[46,53]⟩:ByteArray) 0))=false:=beq_eq_false_iff_ne.mpr c8
    have c8b1:((bt a0 a1.toNat) != (bt (⟨#[46,53]⟩:ByteArray) 0))=true:=bne_iff_ne.mpr c8
    have hc8:=hid c8
    clear c8
    simp only [Option.some.injEq,Prod.mk.injEq] at H
    obtain ⟨rfl,rfl,rfl⟩:=H
    go_enter Tryz.func75,Tryz.ntmps75
    go_wp2_with (first
     |((with_reducible refine Qa (N:=4) rfl ?_);obtain ⟨gb1,hgb1⟩:∃ g_,w.heap.size=g_:=⟨_,rfl⟩;refine Qq Qs gb1 hgb1 rfl rfl ?_;intro w17 hb_ hB_ hs_;have GEb1:Hid (w.heap.size≤gb1):=hid (by have:=HL.out.size;omega);replace HL:=hid (HL.out.trans (hb_.mono GEb1.out));have BKb1:=hid hB_;clear hb_ hB_ hs_ hgb1))
    (try simp only [Act.put,sI,sZ,sS])
    have WR64:=Zs
    have WR32:=ZA
    have WR8:=Ko
    have WRU:=ZY
    refine Xb (by kernel_rfl) (by kernel_rfl) ?_
    refine QY (Ii a1) (fun z_ hc_=>Qo (.tmp 1) (.inl rfl) _ rfl) rfl rfl ?_
    intro t_ k_;simp only [sI,sZ,sS] at k_;subst k_
    refine QY (.string a0) (fun z_ hc_=>Qo (.tmp 0) (.inl rfl) _ rfl) rfl rfl ?_
    intro t_ k_;simp only [sI,sZ,sS] at k_;subst k_
    refine QY (Ii (a0.size:Int)) (fun z_ hc_=>by go_simp <;> (unfold wrap64;omega)) rfl rfl ?_
    intro t_ k_;simp only [sI,sZ,sS] at k_;subst k_
    refine QY (.bool true) (fun z_ hc_=>by go_simp <;> (unfold wrap64;omega)) rfl rfl ?_
    intro t_ k_;simp only [sI,sZ,sS] at k_;subst k_
    refine QY (.bool true) (fun z_ hc_=>Qo (.tmp 9) (.inl rfl) _ rfl) rfl rfl ?_
    intro t_ k_;simp only [sI,sZ,sS] at k_;subst k_
    refine QY (.string a0) (fun z_ hc_=>Qo (.tmp 0) (.inl rfl) _ rfl) rfl rfl ?_
    intro t_ k_;simp only [sI,sZ,sS] at k_;subst k_
    refine QY (Ii a1) (fun z_ hc_=>Qo (.tmp 1) (.inl rfl) _ rfl) rfl rfl ?_
    intro t_ k_;simp only [sI,sZ,sS] at k_;subst k_
    refine QY (.int .u8 (bt a0 a1.toNat)) (fun z_ hc_=>by obtain ⟨n_,hn_⟩:=hc_;exact XW 9 (.string a0) (Ii a1) (.int .u8 (bt a0 a1.toNat)) (KD a0 a1 hc7.out hc6.out) _ _ rfl rfl rfl) rfl rfl ?_
    intro t_ k_;simp only [sI,sZ,sS] at k_;subst k_
    refine QY (.int .u8 (bt (⟨#[46,53]⟩:ByteArray) 0)) (fun z_ hc_=>by obtain ⟨n_,hn_⟩:=hc_;exact XW 9 (.string (⟨#[46,53]⟩:ByteArray)) (Ii 0) (.int .u8 (bt (⟨#[46,53]⟩:ByteArray) 0)) (KD (⟨#[46,53]⟩:ByteArray) 0 (by omega) (by first|omega|decide)) _ _ rfl rfl rfl) rfl rfl ?_
    intro t_ k_;simp only [sI,sZ,sS] at k_;subst k_
    refine QY (.bool false) (fun z_ hc_=>by go_simp <;> (unfold wrap64;omega)) rfl rfl ?_
    intro t_ k_;simp only [sI,sZ,sS] at k_;subst k_
    refine QY (.bool false) (fun z_ hc_=>by go_simp <;> (unfold wrap64;omega)) rfl rfl ?_
    intro t_ k_;simp only [sI,sZ,sS] at k_;subst k_
    refine qg ?_
    rintro w8_ ⟨n_,rfl⟩
    replace BKb1:=hid (BKb1.out.below n_.below BKb1.out.lt)
    replace HL:=hid (HL.out.trans (n_.below.mono HL.out.size))
    generalize n_.world=w18 at *
    clear n_ WR64 WR32 WR8 WRU
    go_wp2_with (first
     |((with_reducible refine Qa (N:=23) rfl ?_);refine Qr (.agg #[Ii a1,Ii 0,Ii 0]) _ rfl rfl ?_ ?_;(intro ww_;simp only [List.map_toArray,List.map_cons,List.map_nil];kernel_rfl))
     |((with_reducible refine Qf (t:=75) (p:=4) rfl ?_);refine Qg Qs gb1 0 #[Ii 0,Ii 0,Ii 0] #[Ii a1,Ii 0,Ii 0] #[Ii a1,Ii 0,Ii 0] BKb1.out rfl (by simp) (by intro v_ hv_;simp at hv_;rcases hv_ with rfl|rfl|rfl <;> first|rfl) rfl rfl _ _ rfl rfl rfl ?_;intro w19 ho_ hB_;replace HL:=hid (ho_.below HL.out GEb1.out);replace BKb1:=hid hB_;clear ho_ hB_))
    (try simp only [Act.put,sI,sZ,sS])
    refine bodyPost_ret (v:=.agg #[Ii a1,Ii 0,Ii 0]) (Jz Qs rfl _ gb1 #[Ii a1,Ii 0,Ii 0] BKb1.out rfl rfl) rfl ?_
    exact ⟨by first|rfl|(simp;done)|(simp [*];done),HL.out⟩
  ·
   rw [if_neg c7] at H
   exact absurd H (by simp)
 ·
  rw [if_neg c6] at H
  have c6b0:decide (a1<(a0.size:Int))=false:=decide_eq_false c6
  have hc6:=hid c6
  clear c6
  simp only [Option.some.injEq,Prod.mk.injEq] at H
  obtain ⟨rfl,rfl,rfl⟩:=H
  go_enter Tryz.func75,Tryz.ntmps75
  go_wp2_with (first
   |((with_reducible refine Qa (N:=4) rfl ?_);obtain ⟨gb1,hgb1⟩:∃ g_,w.heap.size=g_:=⟨_,rfl⟩;refine Qq Qs gb1 hgb1 rfl rfl ?_;intro w20 hb_ hB_ hs_;have GEb1:Hid (w.heap.size≤gb1):=hid (by have:=HL.out.size;omega);replace HL:=hid (HL.out.trans (hb_.mono GEb1.out));have BKb1:=hid hB_;clear hb_ hB_ hs_ hgb1))
  (try simp only [Act.put,sI,sZ,sS])
  have WR64:=Zs
  have WR32:=ZA
  refine Xb (by kernel_rfl) (by kernel_rfl) ?_
  refine QY (Ii a1) (fun z_ hc_=>Qo (.tmp 1) (.inl rfl) _ rfl) rfl rfl ?_
  intro t_ k_;simp only [sI,sZ,sS] at k_;subst k_
  refine QY (.string a0) (fun z_ hc_=>Qo (.tmp 0) (.inl rfl) _ rfl) rfl rfl ?_
  intro t_ k_;simp only [sI,sZ,sS] at k_;subst k_
  refine QY (Ii (a0.size:Int)) (fun z_ hc_=>by go_simp <;> (unfold wrap64;omega)) rfl rfl ?_
  intro t_ k_;simp only [sI,sZ,sS] at k_;subst k_
  refine QY (.bool false) (fun z_ hc_=>by go_simp <;> (unfold wrap64;omega)) rfl rfl ?_
  intro t_ k_;simp only [sI,sZ,sS] at k_;subst k_
  refine QY (.bool false) (fun z_ hc_=>Qo (.tmp 9) (.inl rfl) _ rfl) rfl rfl ?_
  intro t_ k_;simp only [sI,sZ,sS] at k_;subst k_
  refine xw 4 false rfl rfl rfl ?_
  intro t_ k_;simp only [sI,sZ,sS] at k_;subst k_
  refine xw 4 false rfl rfl rfl ?_
  intro t_ k_;simp only [sI,sZ,sS] at k_;subst k_
  refine xw 4 false rfl rfl rfl ?_
  intro t_ k_;simp only [sI,sZ,sS] at k_;subst k_
  refine xw 4 false rfl rfl rfl ?_
  intro t_ k_;simp only [sI,sZ,sS] at k_;subst k_
  refine xw 4 false rfl rfl rfl ?_
  intro t_ k_;simp only [sI,sZ,sS] at k_;subst k_
  refine QY (.bool false) (fun z_ hc_=>by go_simp <;> (unfold wrap64;omega)) rfl rfl ?_
  intro t_ k_;simp only [sI,sZ,sS] at k_;subst k_
  refine qg ?_
  rintro w8_ ⟨n_,rfl⟩
  replace BKb1:=hid (BKb1.out.below n_.below BKb1.out.lt)
  replace HL:=hid (HL.out.trans (n_.below.mono HL.out.size))
  generalize n_.world=w21 at *
  clear n_ WR64 WR32
  go_wp2_with (first
   |((with_reducible refine Qa (N:=23) rfl ?_);refine Qr (.agg #[Ii a1,Ii 0,Ii 0]) _ rfl rfl ?_ ?_;(intro ww_;simp only [List.map_toArray,List.map_cons,List.map_nil];kernel_rfl))
   |((with_reducible refine Qf (t:=75) (p:=4) rfl ?_);refine Qg Qs gb1 0 #[Ii 0,Ii 0,Ii 0] #[Ii a1,Ii 0,Ii 0] #[Ii a1,Ii 0,Ii 0] BKb1.out rfl (by simp) (by intro v_ hv_;simp at hv_;rcases hv_ with rfl|rfl|rfl <;> first|rfl) rfl rfl _ _ rfl rfl rfl ?_;intro w22 ho_ hB_;replace HL:=hid (ho_.below HL.out GEb1.out);replace BKb1:=hid hB_;clear ho_ hB_))
  (try simp only [Act.put,sI,sZ,sS])
  refine bodyPost_ret (v:=.agg #[Ii a1,Ii 0,Ii 0]) (Jz Qs rfl _ gb1 #[Ii a1,Ii 0,Ii 0] BKb1.out rfl rfl) rfl ?_
  exact ⟨by first|rfl|(simp;done)|(simp [*];done),HL.out⟩
def Zh.f(k:Nat)(a0:ByteArray)(a1:Int):Option (Int×Int×Int×Bool×Int×Int×Int):=(QO.f k).bind fun bt3=>((QR.f k a0 a1 bt3.1).bind fun bt5=>(if bt5.2.2=0 then (if 0≤bt5.2.1 then (if bt5.2.1<(bt3.2.length:Int) then (if ((nt bt3.2 bt5.2.1.toNat (0,0,0,false)).1)=5 then ((Qw.f k a0 bt5.1 0 64).bind fun bt11=>(if bt11.2.2=0 then (if bt11.2.1=0 then ((QN.f k a0 bt11.1 (⟨#[46,53]⟩:ByteArray)).bind fun bt15=>(if bt15.2.2=0 then (some ((nt bt3.2 bt5.2.1.toNat (0,0,0,false)).1,(nt bt3.2 bt5.2.1.toNat (0,0,0,false)).2.1,bt11.2.1,true,bt15.1,0,0)) else (some (0,0,0,false,bt15.1,bt15.2.1,bt15.2.2)))) else ((Zv.f k a0 bt11.1).bind fun bt19=>(if bt19.2.2=0 then (some ((nt bt3.2 bt5.2.1.toNat (0,0,0,false)).1,(nt bt3.2 bt5.2.1.toNat (0,0,0,false)).2.1,bt11.2.1,(bt19.2.1==1),bt19.1,0,0)) else (some (0,0,0,false,bt19.1,0,bt19.2.2))))) else (some (0,0,0,false,bt11.1,bt11.2.1,bt11.2.2)))) else ((Qw.f k a0 bt5.1 1 64).bind fun bt23=>(if bt23.2.2=0 then (some ((nt bt3.2 bt5.2.1.toNat (0,0,0,false)).1,(nt bt3.2 bt5.2.1.toNat (0,0,0,false)).2.1,bt23.2.1,(nt bt3.2 bt5.2.1.toNat (0,0,0,false)).2.2.2,bt23.1,0,0)) else (some (0,0,0,false,bt23.1,bt23.2.1,bt23.2.2))))) else (none)) else (none)) else (some (0,0,0,false,bt5.1,bt5.2.1,bt5.2.2))))
theorem Zh.c(k:Nat)(a0:ByteArray)(a1 r1 r2 r3:Int)(r4:Bool)(r5 r6 r7:Int)(w:World)(h:Zh.f k a0 a1=some (r1,r2,r3,r4,r5,r6,r7)):
 Calls Tryz.prog 50 #[.string a0,Ii a1] w fun e w'=>e=.returned (.tuple #[.agg #[Ii r1,Ii r2,Ii r3,.bool r4],.agg #[Ii r5,Ii r6,Ii r7]])∧Below w.heap.size w w':=by
 have HL:=hid (Below.refl w.heap.size w)
 have H:((QO.f k).bind fun bt3=>((QR.f k a0 a1 bt3.1).bind fun bt5=>(if bt5.2.2=0 then (if 0≤bt5.2.1 then (if bt5.2.1<(bt3.2.length:Int) then (if ((nt bt3.2 bt5.2.1.toNat (0,0,0,false)).1)=5 then ((Qw.f k a0 bt5.1 0 64).bind fun bt11=>(if bt11.2.2=0 then (if bt11.2.1=0 then ((QN.f k a0 bt11.1 (⟨#[46,53]⟩:ByteArray)).bind fun bt15=>(if bt15.2.2=0 then (some ((nt bt3.2 bt5.2.1.toNat (0,0,0,false)).1,(nt bt3.2 bt5.2.1.toNat (0,0,0,false)).2.1,bt11.2.1,true,bt15.1,0,0)) else (some (0,0,0,false,bt15.1,bt15.2.1,bt15.2.2)))) else ((Zv.f k a0 bt11.1).bind fun bt19=>(if bt19.2.2=0 then (some ((nt bt3.2 bt5.2.1.toNat (0,0,0,false)).1,(nt bt3.2 bt5.2.1.toNat (0,0,0,false)).2.1,bt11.2.1,(bt19.2.1==1),bt19.1,0,0)) else (some (0,0,0,false,bt19.1,0,bt19.2.2))))) else (some (0,0,0,false,bt11.1,bt11.2.1,bt11.2.2)))) else ((Qw.f k a0 bt5.1 1 64).bind fun bt23=>(if bt23.2.2=0 then (some ((nt bt3.2 bt5.2.1.toNat (0,0,0,false)).1,(nt bt3.2 bt5.2.1.toNat (0,0,0,false)).2.1,bt23.2.1,(nt bt3.2 bt5.2.1.toNat (0,0,0,false)).2.2.2,bt23.1,0,0)) else (some (0,0,0,false,bt23.1,bt23.2.1,bt23.2.2))))) else (none)) else (none)) else (some (0,0,0,false,bt5.1,bt5.2.1,bt5.2.2)))))=some (r1,r2,r3,r4,r5,r6,r7):=h
 clear h
 replace H:=Ia H
 obtain ⟨⟨t3,t4⟩,A27_,H⟩:=H
 dsimp only at H
 have A27:=hid A27_
 clear A27_
 have H':=hid H
 clear H
 go_enter Tryz.func50,Tryz.ntmps50
 have k31:=True.intro
 go_wp2_with (first
  |((with_reducible refine Qa (N:=4) rfl ?_);obtain ⟨gb1,hgb1⟩:∃ g_,w.heap.size=g_:=⟨_,rfl⟩;refine Qq Zp gb1 hgb1 rfl rfl ?_;intro w29 hb_ hB_ hs_;have GEb1:Hid (w.heap.size≤gb1):=hid (by have:=HL.out.size;omega);replace HL:=hid (HL.out.trans (hb_.mono GEb1.out));have BKb1:=hid hB_;clear hb_ hB_ hs_ hgb1)
  |((with_reducible refine Qa (N:=5) rfl ?_);obtain ⟨gb2,hgb2⟩:∃ g_,w29.heap.size=g_:=⟨_,rfl⟩;refine Qq Qs gb2 hgb2 rfl rfl ?_;intro w30 hb_ hB_ hs_;have GEb2:Hid (w.heap.size≤gb2):=hid (by have:=HL.out.size;omega);have NBb1_b2:Hid (gb1≠gb2):=hid (by have:=BKb1.out.lt;omega);have NBb2_b1:Hid (gb2≠gb1):=hid (by have:=NBb1_b2.out;omega);replace BKb1:=hid (BKb1.out.below hb_ (by rw [← hgb2];exact BKb1.out.lt));replace HL:=hid (HL.out.trans (hb_.mono GEb2.out));have BKb2:=hid hB_;clear hb_ hB_ hs_ hgb2)
  |(go_at_call 74;clear k31;refine (QO.c k t3 t4 _ A27.out).mono ?_;rintro e_ w32 ⟨ut3,ut4,rfl,so_t3,so_t4,hb_⟩;replace so_t3:=so_t3.mono HL.out.size;replace so_t4:=so_t4.mono HL.out.size;have SWn_t3:=hid so_t3;clear so_t3;have SWn_t4:=hid so_t4;clear so_t4;replace BKb1:=hid (BKb1.out.below hb_ BKb1.out.lt);replace BKb2:=hid (BKb2.out.below hb_ BKb2.out.lt);replace HL:=hid (HL.out.trans (hb_.mono HL.out.size));clear hb_;have SWt3:=SWn_t3;clear SWn_t3;have SWt4:=SWn_t4;clear SWn_t4))
 (try simp only [Act.put,sI,sZ,sS])
 have H:=H'.out
 clear H'
 replace H:=Ia H
 obtain ⟨⟨t5,t6,t7⟩,A28_,H⟩:=H
 dsimp only at H
 have A28:=hid A28_
 clear A28_
 by_cases c33:t7=0
 ·
  rw [if_pos c33] at H
  have c33b0:(t7==0)=true:=beq_iff_eq.mpr c33
  have c33b1:(t7 != 0)=false:=bne_eq_false_iff_eq.mpr c33
  have hc33:=hid c33
  clear c33
  by_cases c34:0≤t6
  ·
   rw [if_pos c34] at H
   have c34b0:decide (0≤t6)=true:=decide_eq_true c34
   have hc34:=hid c34
   clear c34
   by_cases c35:t6<(t4.length:Int)
   ·
    rw [if_pos c35] at H
    have c35b0:decide (t6<(t4.length:Int))=true:=decide_eq_true c35
    have hc35:=hid c35
    clear c35
    by_cases c36:((nt t4 t6.toNat (0,0,0,false)).1)=5
    ·
     rw [if_pos c36] at H
     have c36b0:(((nt t4 t6.toNat (0,0,0,false)).1)==5)=true:=beq_iff_eq.mpr c36
     have c36b1:(((nt t4 t6.toNat (0,0,0,false)).1) != 5)=false:=bne_eq_false_iff_eq.mpr c36
     have hc36:=hid c36
     clear c36
     have H':=hid H
     clear H
     have k38:=True.intro
     go_wp2_with (first
      |(go_at_call 63;clear k38;refine (QR.c k a0 a1 (ut3) t3 t5 t6 t7 _ SWt3.out.sl A28.out).mono ?_;rintro e_ w39 ⟨rfl,hb_⟩;replace BKb1:=hid (BKb1.out.below hb_ BKb1.out.lt);replace BKb2:=hid (BKb2.out.below hb_ BKb2.out.lt);replace SWt3:=hid (SWt3.out.below hb_);replace SWt4:=hid (SWt4.out.below hb_);replace HL:=hid (HL.out.trans (hb_.mono HL.out.size));clear hb_)
      |((with_reducible refine Qa (N:=8) rfl ?_);obtain ⟨gb8,hgb8⟩:∃ g_,w39.heap.size=g_:=⟨_,rfl⟩;refine Zl Qs #[Ii t5,Ii t6,Ii t7] gb8 hgb8 rfl (by intro v_ hv_;simp at hv_;rcases hv_ with rfl|rfl|rfl <;> first|rfl) rfl rfl 8 rfl _ _ rfl (fun _=>rfl) (fun _=>rfl) rfl ?_;intro w40 hb_ hB_ hs_;have GEb8:Hid (w.heap.size≤gb8):=hid (by have:=HL.out.size;omega);have NBb1_b8:Hid (gb1≠gb8):=hid (by have:=BKb1.out.lt;omega);have NBb8_b1:Hid (gb8≠gb1):=hid (by have:=NBb1_b8.out;omega);replace BKb1:=hid (BKb1.out.below hb_ (by rw [← hgb8];exact BKb1.out.lt));have NBb2_b8:Hid (gb2≠gb8):=hid (by have:=BKb2.out.lt;omega);have NBb8_b2:Hid (gb8≠gb2):=hid (by have:=NBb2_b8.out;omega);replace BKb2:=hid (BKb2.out.below hb_ (by rw [← hgb8];exact BKb2.out.lt));replace SWt3:=hid (SWt3.out.below (by rw [hgb8];exact hb_));replace SWt4:=hid (SWt4.out.below (by rw [hgb8];exact hb_));replace HL:=hid (HL.out.trans (hb_.mono GEb8.out));have BKb8:=hid hB_;clear hb_ hB_ hs_ hgb8)
      |((with_reducible refine Qa (N:=22) rfl ?_);refine Qb (Pg gb8 2) (Qc 75 2 (Pg gb8 0) (Pg gb8 2) (Js gb8) _ rfl rfl) rfl ?_)
      |((with_reducible refine Qa (N:=23) rfl ?_);refine Qb (Ii t7) (Qd Zk gb8 (2) (Ii t7) (#[Ii t5,Ii t6,Ii t7]) BKb8.out rfl _ rfl rfl) rfl ?_)
      |((with_reducible refine Qa (N:=28) rfl ?_);refine Qb (Pg gb8 1) (Qc 75 1 (Pg gb8 0) (Pg gb8 1) (Ka gb8) _ rfl rfl) rfl ?_)
      |((with_reducible refine Qa (N:=29) rfl ?_);refine Qb (Ii t6) (Qd sT3 gb8 (1) (Ii t6) (#[Ii t5,Ii t6,Ii t7]) BKb8.out rfl _ rfl rfl) rfl ?_)
      |((with_reducible refine Qa (N:=30) rfl ?_);obtain ⟨ad9,c41,hv42,HCad9_⟩:=SlN.get (l:=t4) (f:=VG) xL SWt4.out.sl (0,0,0,false) (i:=t6) hc34.out hc35.out;have HCad9:=hid HCad9_;clear HCad9_;refine Qb (.pointer (some (ad9.add (t6.toNat*4)))) (vS _ _ t6 _ _ hv42 hc34.out hc35.out Qfa Zp.size _ _ rfl rfl rfl) rfl ?_;clear hv42)
      |((with_reducible refine Qa (N:=31) rfl ?_);refine Qb (.agg #[Ii ((nt t4 t6.toNat (0,0,0,false)).1),Ii ((nt t4 t6.toNat (0,0,0,false)).2.1),Ii ((nt t4 t6.toNat (0,0,0,false)).2.2.1),.bool ((nt t4 t6.toNat (0,0,0,false)).2.2.2)]) (Qcm Zp _ (VG (nt t4 t6.toNat (0,0,0,false))) rfl HCad9.out _ rfl rfl) rfl ?_)
      |((with_reducible refine Qa (N:=9) rfl ?_);obtain ⟨gb10,hgb10⟩:∃ g_,w40.heap.size=g_:=⟨_,rfl⟩;refine Zl Zp #[Ii ((nt t4 t6.toNat (0,0,0,false)).1),Ii ((nt t4 t6.toNat (0,0,0,false)).2.1),Ii ((nt t4 t6.toNat (0,0,0,false)).2.2.1),.bool ((nt t4 t6.toNat (0,0,0,false)).2.2.2)] gb10 hgb10 rfl (by intro v_ hv_;simp at hv_;rcases hv_ with rfl|rfl|rfl|rfl <;> first|rfl) rfl rfl 9 rfl _ _ rfl (fun _=>rfl) (fun _=>rfl) rfl ?_;intro w43 hb_ hB_ hs_;have GEb10:Hid (w.heap.size≤gb10):=hid (by have:=HL.out.size;omega);have NBb1_b10:Hid (gb1≠gb10):=hid (by have:=BKb1.out.lt;omega);have NBb10_b1:Hid (gb10≠gb1):=hid (by have:=NBb1_b10.out;omega);replace BKb1:=hid (BKb1.out.below hb_ (by rw [← hgb10];exact BKb1.out.lt));have NBb2_b10:Hid (gb2≠gb10):=hid (by have:=BKb2.out.lt;omega);have NBb10_b2:Hid (gb10≠gb2):=hid (by have:=NBb2_b10.out;omega);replace BKb2:=hid (BKb2.out.below hb_ (by rw [← hgb10];exact BKb2.out.lt));have NBb8_b10:Hid (gb8≠gb10):=hid (by have:=BKb8.out.lt;omega);have NBb10_b8:Hid (gb10≠gb8):=hid (by have:=NBb8_b10.out;omega);replace BKb8:=hid (BKb8.out.below hb_ (by rw [← hgb10];exact BKb8.out.lt));replace SWt3:=hid (SWt3.out.below (by rw [hgb10];exact hb_));replace SWt4:=hid (SWt4.out.below (by rw [hgb10];exact hb_));replace HL:=hid (HL.out.trans (hb_.mono GEb10.out));have BKb10:=hid hB_;clear hb_ hB_ hs_ hgb10)
      |((with_reducible refine Qa (N:=32) rfl ?_);refine Qb (Pg gb10 0) (Qc 28 0 (Pg gb10 0) (Pg gb10 0) (Qv gb10) _ rfl rfl) rfl ?_)
      |((with_reducible refine Qa (N:=33) rfl ?_);refine Qb (Ii ((nt t4 t6.toNat (0,0,0,false)).1)) (Qd sT3 gb10 (0) (Ii ((nt t4 t6.toNat (0,0,0,false)).1)) (#[Ii ((nt t4 t6.toNat (0,0,0,false)).1),Ii ((nt t4 t6.toNat (0,0,0,false)).2.1),Ii ((nt t4 t6.toNat (0,0,0,false)).2.2.1),.bool ((nt t4 t6.toNat (0,0,0,false)).2.2.2)]) BKb10.out rfl _ rfl rfl) rfl ?_)
      |((with_reducible refine Qa (N:=36) rfl ?_);refine Qb (Pg gb8 0) (Qc 75 0 (Pg gb8 0) (Pg gb8 0) (ZC gb8) _ rfl rfl) rfl ?_)
      |((with_reducible refine Qa (N:=37) rfl ?_);refine Qb (Ii t5) (Qd sT3 gb8 (0) (Ii t5) (#[Ii t5,Ii t6,Ii t7]) BKb8.out rfl _ rfl rfl) rfl ?_))
     (try simp only [Act.put,sI,sZ,sS])
     have H:=H'.out
     clear H'
     replace H:=Ia H
     obtain ⟨⟨t11,t12,t13⟩,A37_,H⟩:=H
     dsimp only at H
     have A37:=hid A37_
     clear A37_
     by_cases c44:t13=0
     ·
      rw [if_pos c44] at H
      have c44b0:(t13==0)=true:=beq_iff_eq.mpr c44
      have c44b1:(t13 != 0)=false:=bne_eq_false_iff_eq.mpr c44
      have hc44:=hid c44
      clear c44
      by_cases c45:t12=0
      ·
       rw [if_pos c45] at H
       have c45b0:(t12==0)=true:=beq_iff_eq.mpr c45
       have c45b1:(t12 != 0)=false:=bne_eq_false_iff_eq.mpr c45
       have hc45:=hid c45
       clear c45
       have H':=hid H
       clear H
       have k47:=True.intro
       go_wp2_with (first
        |(go_at_call 65;clear k47;refine (Qw.c k a0 t5 0 64 t11 t12 t13 _ A37.out).mono ?_;rintro e_ w48 ⟨rfl,hb_⟩;replace BKb1:=hid (BKb1.out.below hb_ BKb1.out.lt);replace BKb2:=hid (BKb2.out.below hb_ BKb2.out.lt);replace BKb8:=hid (BKb8.out.below hb_ BKb8.out.lt);replace BKb10:=hid (BKb10.out.below hb_ BKb10.out.lt);replace SWt3:=hid (SWt3.out.below hb_);replace SWt4:=hid (SWt4.out.below hb_);replace HL:=hid (HL.out.trans (hb_.mono HL.out.size));clear hb_)
        |((with_reducible refine Qa (N:=11) rfl ?_);obtain ⟨gb14,hgb14⟩:∃ g_,w48.heap.size=g_:=⟨_,rfl⟩;refine Zl Qs #[Ii t11,Ii t12,Ii t13] gb14 hgb14 rfl (by intro v_ hv_;simp at hv_;rcases hv_ with rfl|rfl|rfl <;> first|rfl) rfl rfl 11 rfl _ _ rfl (fun _=>rfl) (fun _=>rfl) rfl ?_;intro w49 hb_ hB_ hs_;have GEb14:Hid (w.heap.size≤gb14):=hid (by have:=HL.out.size;omega);have NBb1_b14:Hid (gb1≠gb14):=hid (by have:=BKb1.out.lt;omega);have NBb14_b1:Hid (gb14≠gb1):=hid (by have:=NBb1_b14.out;omega);replace BKb1:=hid (BKb1.out.below hb_ (by rw [← hgb14];exact BKb1.out.lt));have NBb2_b14:Hid (gb2≠gb14):=hid (by have:=BKb2.out.lt;omega);have NBb14_b2:Hid (gb14≠gb2):=hid (by have:=NBb2_b14.out;omega);replace BKb2:=hid (BKb2.out.below hb_ (by rw [← hgb14];exact BKb2.out.lt));have NBb8_b14:Hid (gb8≠gb14):=hid (by have:=BKb8.out.lt;omega);have NBb14_b8:Hid (gb14≠gb8):=hid (by have:=NBb8_b14.out;omega);replace BKb8:=hid (BKb8.out.below hb_ (by rw [← hgb14];exact BKb8.out.lt));have NBb10_b14:Hid (gb10≠gb14):=hid (by have:=BKb10.out.lt;omega);have NBb14_b10:Hid (gb14≠gb10):=hid (by have:=NBb10_b14.out;omega);replace BKb10:=hid (BKb10.out.below hb_ (by rw [← hgb14];exact BKb10.out.lt));replace SWt3:=hid (SWt3.out.below (by rw [hgb14];exact hb_));replace SWt4:=hid (SWt4.out.below (by rw [hgb14];exact hb_));replace HL:=hid (HL.out.trans (hb_.mono GEb14.out));have BKb14:=hid hB_;clear hb_ hB_ hs_ hgb14)
        |((with_reducible refine Qa (N:=40) rfl ?_);refine Qb (Pg gb14 2) (Qc 75 2 (Pg gb14 0) (Pg gb14 2) (Js gb14) _ rfl rfl) rfl ?_)
        |((with_reducible refine Qa (N:=41) rfl ?_);refine Qb (Ii t13) (Qd Zk gb14 (2) (Ii t13) (#[Ii t11,Ii t12,Ii t13]) BKb14.out rfl _ rfl rfl) rfl ?_)
        |((with_reducible refine Qa (N:=45) rfl ?_);refine Qb (Pg gb14 1) (Qc 75 1 (Pg gb14 0) (Pg gb14 1) (Ka gb14) _ rfl rfl) rfl ?_)
        |((with_reducible refine Qa (N:=46) rfl ?_);refine Qb (Ii t12) (Qd sT3 gb14 (1) (Ii t12) (#[Ii t11,Ii t12,Ii t13]) BKb14.out rfl _ rfl rfl) rfl ?_)
        |((with_reducible refine Qa (N:=47) rfl ?_);refine Qb (Pg gb10 2) (Qc 28 2 (Pg gb10 0) (Pg gb10 2) (Jd gb10) _ rfl rfl) rfl ?_)
        |((with_reducible refine Qf (t:=3) (p:=47) rfl ?_);refine QH sT3 gb10 (2) (Ii t12) #[Ii ((nt t4 t6.toNat (0,0,0,false)).1),Ii ((nt t4 t6.toNat (0,0,0,false)).2.1),Ii ((nt t4 t6.toNat (0,0,0,false)).2.2.1),.bool ((nt t4 t6.toNat (0,0,0,false)).2.2.2)] #[Ii ((nt t4 t6.toNat (0,0,0,false)).1),Ii ((nt t4 t6.toNat (0,0,0,false)).2.1),Ii t12,.bool ((nt t4 t6.toNat (0,0,0,false)).2.2.2)] BKb10.out (by simp) rfl rfl rfl rfl _ _ rfl rfl rfl ?_;intro w50 ho_ hB_;replace BKb1:=hid (BKb1.out.off ho_ NBb1_b10.out);replace BKb2:=hid (BKb2.out.off ho_ NBb2_b10.out);replace BKb8:=hid (BKb8.out.off ho_ NBb8_b10.out);replace BKb14:=hid (BKb14.out.off ho_ NBb14_b10.out);clear SWt4;replace SWt3:=hid (SWt3.out.off ho_ BKb10.out (by decide));replace HL:=hid (ho_.below HL.out GEb10.out);replace BKb10:=hid hB_;clear ho_ hB_)
        |((with_reducible refine Qa (N:=48) rfl ?_);refine Qb (Pg gb10 0) (Qc 28 0 (Pg gb10 0) (Pg gb10 0) (Qv gb10) _ rfl rfl) rfl ?_)
        |((with_reducible refine Qa (N:=49) rfl ?_);refine Qb (Ii ((nt t4 t6.toNat (0,0,0,false)).1)) (Qd sT3 gb10 (0) (Ii ((nt t4 t6.toNat (0,0,0,false)).1)) (#[Ii ((nt t4 t6.toNat (0,0,0,false)).1),Ii ((nt t4 t6.toNat (0,0,0,false)).2.1),Ii t12,.bool ((nt t4 t6.toNat (0,0,0,false)).2.2.2)]) BKb10.out rfl _ rfl rfl) rfl ?_)
        |((with_reducible refine Qa (N:=55) rfl ?_);refine Qb (Pg gb10 2) (Qc 28 2 (Pg gb10 0) (Pg gb10 2) (Jd gb10) _ rfl rfl) rfl ?_)
        |((with_reducible refine Qa (N:=56) rfl ?_);refine Qb (Ii t12) (Qd sT3 gb10 (2) (Ii t12) (#[Ii ((nt t4 t6.toNat (0,0,0,false)).1),Ii ((nt t4 t6.toNat (0,0,0,false)).2.1),Ii t12,.bool ((nt t4 t6.toNat (0,0,0,false)).2.2.2)]) BKb10.out rfl _ rfl rfl) rfl ?_)
        |((with_reducible refine Qa (N:=59) rfl ?_);refine Qb (Pg gb14 0) (Qc 75 0 (Pg gb14 0) (Pg gb14 0) (ZC gb14) _ rfl rfl) rfl ?_)
        |((with_reducible refine Qa (N:=60) rfl ?_);refine Qb (Ii t11) (Qd sT3 gb14 (0) (Ii t11) (#[Ii t11,Ii t12,Ii t13]) BKb14.out rfl _ rfl rfl) rfl ?_))
       (try simp only [Act.put,sI,sZ,sS])
       have H:=H'.out
       clear H'
       replace H:=Ia H
       obtain ⟨⟨t15,t16,t17⟩,A46_,H⟩:=H
       dsimp only at H
       have A46:=hid A46_
       clear A46_
       by_cases c51:t17=0
       ·
        rw [if_pos c51] at H
        have c51b0:(t17==0)=true:=beq_iff_eq.mpr c51
        have c51b1:(t17 != 0)=false:=bne_eq_false_iff_eq.mpr c51
        have hc51:=hid c51
        clear c51
        simp only [Option.some.injEq,Prod.mk.injEq] at H
        obtain ⟨rfl,rfl,rfl,rfl,rfl,rfl,rfl⟩:=H
        have k52:=True.intro
        go_wp2_with (first
         |(go_at_call 64;clear k52;refine (QN.c k a0 t11 (⟨#[46,53]⟩:ByteArray) t15 t16 t17 _ A46.out).mono ?_;rintro e_ w53 ⟨rfl,hb_⟩;replace BKb1:=hid (BKb1.out.below hb_ BKb1.out.lt);replace BKb2:=hid (BKb2.out.below hb_ BKb2.out.lt);replace BKb8:=hid (BKb8.out.below hb_ BKb8.out.lt);replace BKb10:=hid (BKb10.out.below hb_ BKb10.out.lt);replace BKb14:=hid (BKb14.out.below hb_ BKb14.out.lt);replace SWt3:=hid (SWt3.out.below hb_);replace HL:=hid (HL.out.trans (hb_.mono HL.out.size));clear hb_)
         |((with_reducible refine Qa (N:=12) rfl ?_);obtain ⟨gb18,hgb18⟩:∃ g_,w53.heap.size=g_:=⟨_,rfl⟩;refine Zl Qs #[Ii t15,Ii t16,Ii t17] gb18 hgb18 rfl (by intro v_ hv_;simp at hv_;rcases hv_ with rfl|rfl|rfl <;> first|rfl) rfl rfl 12 rfl _ _ rfl (fun _=>rfl) (fun _=>rfl) rfl ?_;intro w54 hb_ hB_ hs_;have GEb18:Hid (w.heap.size≤gb18):=hid (by have:=HL.out.size;omega);have NBb1_b18:Hid (gb1≠gb18):=hid (by have:=BKb1.out.lt;omega);have NBb18_b1:Hid (gb18≠gb1):=hid (by have:=NBb1_b18.out;omega);replace BKb1:=hid (BKb1.out.below hb_ (by rw [← hgb18];exact BKb1.out.lt));have NBb2_b18:Hid (gb2≠gb18):=hid (by have:=BKb2.out.lt;omega);have NBb18_b2:Hid (gb18≠gb2):=hid (by have:=NBb2_b18.out;omega);replace BKb2:=hid (BKb2.out.below hb_ (by rw [← hgb18];exact BKb2.out.lt));have NBb8_b18:Hid (gb8≠gb18):=hid (by have:=BKb8.out.lt;omega);have NBb18_b8:Hid (gb18≠gb8):=hid (by have:=NBb8_b18.out;omega);replace BKb8:=hid (BKb8.out.below hb_ (by rw [← hgb18];exact BKb8.out.lt));have NBb10_b18:Hid (gb10≠gb18):=hid (by have:=BKb10.out.lt;omega);have NBb18_b10:Hid (gb18≠gb10):=hid (by have:=NBb10_b18.out;omega);replace BKb10:=hid (BKb10.out.below hb_ (by rw [← hgb18];exact BKb10.out.lt));have NBb14_b18:Hid (gb14≠gb18):=hid (by have:=BKb14.out.lt;omega);have NBb18_b14:Hid (gb18≠gb14):=hid (by have:=NBb14_b18.out;omega);replace BKb14:=hid (BKb14.out.below hb_ (by rw [← hgb18];exact BKb14.out.lt));replace SWt3:=hid (SWt3.out.below (by rw [hgb18];exact hb_));replace HL:=hid (HL.out.trans (hb_.mono GEb18.out));have BKb18:=hid hB_;clear hb_ hB_ hs_ hgb18)
         |((with_reducible refine Qa (N:=62) rfl ?_);refine Qb (Pg gb18 2) (Qc 75 2 (Pg gb18 0) (Pg gb18 2) (Js gb18) _ rfl rfl) rfl ?_)
         |((with_reducible refine Qa (N:=63) rfl ?_);refine Qb (Ii t17) (Qd Zk gb18 (2) (Ii t17) (#[Ii t15,Ii t16,Ii t17]) BKb18.out rfl _ rfl rfl) rfl ?_)
         |((with_reducible refine Qa (N:=67) rfl ?_);refine Qb (Pg gb10 3) (Qc 28 3 (Pg gb10 0) (Pg gb10 3) (Xk gb10) _ rfl rfl) rfl ?_)
         |((with_reducible refine Qf (t:=4) (p:=67) rfl ?_);refine QH sT4 gb10 (3) (.bool true) #[Ii ((nt t4 t6.toNat (0,0,0,false)).1),Ii ((nt t4 t6.toNat (0,0,0,false)).2.1),Ii t12,.bool ((nt t4 t6.toNat (0,0,0,false)).2.2.2)] #[Ii ((nt t4 t6.toNat (0,0,0,false)).1),Ii ((nt t4 t6.toNat (0,0,0,false)).2.1),Ii t12,.bool true] BKb10.out (by simp) rfl rfl rfl rfl _ _ rfl rfl rfl ?_;intro w55 ho_ hB_;replace BKb1:=hid (BKb1.out.off ho_ NBb1_b10.out);replace BKb2:=hid (BKb2.out.off ho_ NBb2_b10.out);replace BKb8:=hid (BKb8.out.off ho_ NBb8_b10.out);replace BKb14:=hid (BKb14.out.off ho_ NBb14_b10.out);replace BKb18:=hid (BKb18.out.off ho_ NBb18_b10.out);replace SWt3:=hid (SWt3.out.off ho_ BKb10.out (by decide));replace HL:=hid (ho_.below HL.out GEb10.out);replace BKb10:=hid hB_;clear ho_ hB_))
        (try simp only [Act.put,sI,sZ,sS])
        have WR64:=Zs
        have WR32:=ZA
        have WR8:=Ko
        have WRU:=ZY
        refine QL (fun z_=>Below w.heap.size w z_∧Blk z_ gb2 75 #[Ii 0,Ii 0,Ii 0]∧Blk z_ gb8 75 #[Ii t5,Ii t6,Ii t7]∧Blk z_ gb10 28 #[Ii ((nt t4 t6.toNat (0,0,0,false)).1),Ii ((nt t4 t6.toNat (0,0,0,false)).2.1),Ii t12,.bool true]∧Blk z_ gb14 75 #[Ii t11,Ii t12,Ii t13]∧Blk z_ gb18 75 #[Ii t15,Ii t16,Ii t17]∧Own z_ w.heap.size 9 (ut3) (t3.map Value.string)∧True) [5] [(0,1),(1,2),(2,1),(3,2),(4,0),(5,0)] (by kernel_rfl) (by kernel_rfl) (by kernel_rfl) rfl ?_
        intro w56 hb_
        replace BKb1:=hid (BKb1.out.below hb_ BKb1.out.lt)
        replace BKb2:=hid (BKb2.out.below hb_ BKb2.out.lt)
        replace BKb8:=hid (BKb8.out.below hb_ BKb8.out.lt)
        replace BKb10:=hid (BKb10.out.below hb_ BKb10.out.lt)
        replace BKb14:=hid (BKb14.out.below hb_ BKb14.out.lt)
        replace BKb18:=hid (BKb18.out.below hb_ BKb18.out.lt)
        replace SWt3:=hid (SWt3.out.below hb_)
        replace HL:=hid (HL.out.trans (hb_.mono HL.out.size))
        clear hb_
        refine QA (.agg #[Ii ((nt t4 t6.toNat (0,0,0,false)).1),Ii ((nt t4 t6.toNat (0,0,0,false)).2.1),Ii t12,.bool true]) ⟨HL.out,BKb2.out,BKb8.out,BKb10.out,BKb14.out,BKb18.out,SWt3.out,trivial⟩ rfl (fun z_ hS_=>QI Zp gb10 0 #[Ii ((nt t4 t6.toNat (0,0,0,false)).1),Ii ((nt t4 t6.toNat (0,0,0,false)).2.1),Ii t12,.bool true] #[Ii ((nt t4 t6.toNat (0,0,0,false)).1),Ii ((nt t4 t6.toNat (0,0,0,false)).2.1),Ii t12,.bool true] hS_.2.2.2.1 (by simp) rfl _ rfl rfl) rfl rfl ?_
        intro t_ k_;simp only [sI,sZ,sS] at k_;subst k_
        refine Qe (Pg gb18 0) rfl (fun z_=>Qc 75 0 (Pg gb18 0) (Pg gb18 0) (ZC gb18) _ rfl rfl) rfl rfl ?_
        intro t_ k_;simp only [sI,sZ,sS] at k_;subst k_
        refine QA (Ii t15) ⟨HL.out,BKb2.out,BKb8.out,BKb10.out,BKb14.out,BKb18.out,SWt3.out,trivial⟩ rfl (fun z_ hS_=>Qd sT3 gb18 (0) (Ii t15) (#[Ii t15,Ii t16,Ii t17]) hS_.2.2.2.2.2.1 rfl _ rfl rfl) rfl rfl ?_
        intro t_ k_;simp only [sI,sZ,sS] at k_;subst k_
        refine Qe (.agg #[Ii t15,Ii 0,Ii 0]) rfl (fun z_=>Xs (.agg #[Ii t15,Ii 0,Ii 0]) _ rfl (by intro ww_;simp only [List.map_toArray,List.map_cons,List.map_nil];kernel_rfl)) rfl rfl ?_
        intro t_ k_;simp only [sI,sZ,sS] at k_;subst k_
        refine QV rfl (fun Q'_ hQ_=>?_)
        (with_reducible refine Qf (t:=28) (p:=4) rfl ?_)
        refine Qg Zp gb1 0 #[Ii 0,Ii 0,Ii 0,.bool false] #[Ii ((nt t4 t6.toNat (0,0,0,false)).1),Ii ((nt t4 t6.toNat (0,0,0,false)).2.1),Ii t12,.bool true] #[Ii ((nt t4 t6.toNat (0,0,0,false)).1),Ii ((nt t4 t6.toNat (0,0,0,false)).2.1),Ii t12,.bool true] BKb1.out rfl (by simp) (by intro v_ hv_;simp at hv_;rcases hv_ with rfl|rfl|rfl|rfl <;> first|rfl) rfl rfl _ _ rfl rfl rfl ?_
        intro w57 ho_ hB_
        replace BKb2:=hid (BKb2.out.off ho_ NBb2_b1.out)
        replace BKb8:=hid (BKb8.out.off ho_ NBb8_b1.out)
        replace BKb10:=hid (BKb10.out.off ho_ NBb10_b1.out)
        replace BKb14:=hid (BKb14.out.off ho_ NBb14_b1.out)
        replace BKb18:=hid (BKb18.out.off ho_ NBb18_b1.out)
        replace SWt3:=hid (SWt3.out.off ho_ BKb1.out (by decide))
        replace HL:=hid (ho_.below HL.out GEb1.out)
        replace BKb1:=hid hB_
        clear ho_ hB_
        refine Qz ?_
        refine hQ_ _ _ (fun _=>⟨HL.out,BKb2.out,BKb8.out,BKb10.out,BKb14.out,BKb18.out,SWt3.out,trivial⟩) ?_
        clear hQ_ Q'_
        simp only [Act.put]
        refine QV rfl (fun Q'_ hQ_=>?_)
        (with_reducible refine Qf (t:=75) (p:=5) rfl ?_)
        refine Qg Qs gb2 0 #[Ii 0,Ii 0,Ii 0] #[Ii t15,Ii 0,Ii 0] #[Ii t15,Ii 0,Ii 0] BKb2.out rfl (by simp) (by intro v_ hv_;simp at hv_;rcases hv_ with rfl|rfl|rfl <;> first|rfl) rfl rfl _ _ rfl rfl rfl ?_
        intro w58 ho_ hB_
        replace BKb1:=hid (BKb1.out.off ho_ NBb1_b2.out)
        replace BKb8:=hid (BKb8.out.off ho_ NBb8_b2.out)
        replace BKb10:=hid (BKb10.out.off ho_ NBb10_b2.out)
        replace BKb14:=hid (BKb14.out.off ho_ NBb14_b2.out)
        replace BKb18:=hid (BKb18.out.off ho_ NBb18_b2.out)
        replace SWt3:=hid (SWt3.out.off ho_ BKb2.out (by decide))
        replace HL:=hid (ho_.below HL.out GEb2.out)
        replace BKb2:=hid hB_
        clear ho_ hB_
        refine Qz ?_
        refine hQ_ _ _ (fun h_=>absurd h_ (by decide)) ?_
        clear hQ_ Q'_
        simp only [Act.put]
        refine JH ?_
        clear WR64 WR32 WR8 WRU
        go_wp2_with fail
        (try simp only [Act.put,sI,sZ,sS])
        refine bodyPost_ret (v:=.tuple #[.agg #[Ii ((nt t4 t6.toNat (0,0,0,false)).1),Ii ((nt t4 t6.toNat (0,0,0,false)).2.1),Ii t12,.bool true],.agg #[Ii t15,Ii 0,Ii 0]]) (VC Zp Qs rfl _ gb1 gb2 #[Ii ((nt t4 t6.toNat (0,0,0,false)).1),Ii ((nt t4 t6.toNat (0,0,0,false)).2.1),Ii t12,.bool true] #[Ii t15,Ii 0,Ii 0] BKb1.out rfl rfl BKb2.out rfl rfl) rfl ?_
        exact ⟨by first|rfl|(simp;done)|(simp [*];done),HL.out⟩
       ·
        rw [if_neg c51] at H
        have c51b0:(t17==0)=false:=beq_eq_false_iff_ne.mpr c51
        have c51b1:(t17 != 0)=true:=bne_iff_ne.mpr c51
        have hc51:=hid c51
        clear c51
        simp only [Option.some.injEq,Prod.mk.injEq] at H
        obtain ⟨rfl,rfl,rfl,rfl,rfl,rfl,rfl⟩:=H
        have k59:=True.intro
        go_wp2_with (first
         |(go_at_call 64;clear k59;refine (QN.c k a0 t11 (⟨#[46,53]⟩:ByteArray) t15 t16 t17 _ A46.out).mono ?_;rintro e_ w60 ⟨rfl,hb_⟩;replace BKb1:=hid (BKb1.out.below hb_ BKb1.out.lt);replace BKb2:=hid (BKb2.out.below hb_ BKb2.out.lt);replace BKb8:=hid (BKb8.out.below hb_ BKb8.out.lt);replace BKb10:=hid (BKb10.out.below hb_ BKb10.out.lt);replace BKb14:=hid (BKb14.out.below hb_ BKb14.out.lt);replace SWt3:=hid (SWt3.out.below hb_);replace HL:=hid (HL.out.trans (hb_.mono HL.out.size));clear hb_)
         |((with_reducible refine Qa (N:=12) rfl ?_);obtain ⟨gb18,hgb18⟩:∃ g_,w60.heap.size=g_:=⟨_,rfl⟩;refine Zl Qs #[Ii t15,Ii t16,Ii t17] gb18 hgb18 rfl (by intro v_ hv_;simp at hv_;rcases hv_ with rfl|rfl|rfl <;> first|rfl) rfl rfl 12 rfl _ _ rfl (fun _=>rfl) (fun _=>rfl) rfl ?_;intro w61 hb_ hB_ hs_;have GEb18:Hid (w.heap.size≤gb18):=hid (by have:=HL.out.size;omega);have NBb1_b18:Hid (gb1≠gb18):=hid (by have:=BKb1.out.lt;omega);have NBb18_b1:Hid (gb18≠gb1):=hid (by have:=NBb1_b18.out;omega);replace BKb1:=hid (BKb1.out.below hb_ (by rw [← hgb18];exact BKb1.out.lt));have NBb2_b18:Hid (gb2≠gb18):=hid (by have:=BKb2.out.lt;omega);have NBb18_b2:Hid (gb18≠gb2):=hid (by have:=NBb2_b18.out;omega);replace BKb2:=hid (BKb2.out.below hb_ (by rw [← hgb18];exact BKb2.out.lt));have NBb8_b18:Hid (gb8≠gb18):=hid (by have:=BKb8.out.lt;omega);have NBb18_b8:Hid (gb18≠gb8):=hid (by have:=NBb8_b18.out;omega);replace BKb8:=hid (BKb8.out.below hb_ (by rw [← hgb18];exact BKb8.out.lt));have NBb10_b18:Hid (gb10≠gb18):=hid (by have:=BKb10.out.lt;omega);have NBb18_b10:Hid (gb18≠gb10):=hid (by have:=NBb10_b18.out;omega);replace BKb10:=hid (BKb10.out.below hb_ (by rw [← hgb18];exact BKb10.out.lt));have NBb14_b18:Hid (gb14≠gb18):=hid (by have:=BKb14.out.lt;omega);have NBb18_b14:Hid (gb18≠gb14):=hid (by have:=NBb14_b18.out;omega);replace BKb14:=hid (BKb14.out.below hb_ (by rw [← hgb18];exact BKb14.out.lt));replace SWt3:=hid (SWt3.out.below (by rw [hgb18];exact hb_));replace HL:=hid (HL.out.trans (hb_.mono GEb18.out));have BKb18:=hid hB_;clear hb_ hB_ hs_ hgb18)
         |((with_reducible refine Qa (N:=62) rfl ?_);refine Qb (Pg gb18 2) (Qc 75 2 (Pg gb18 0) (Pg gb18 2) (Js gb18) _ rfl rfl) rfl ?_)
         |((with_reducible refine Qa (N:=63) rfl ?_);refine Qb (Ii t17) (Qd Zk gb18 (2) (Ii t17) (#[Ii t15,Ii t16,Ii t17]) BKb18.out rfl _ rfl rfl) rfl ?_))
        (try simp only [Act.put,sI,sZ,sS])
        have WR64:=Zs
        have WR32:=ZA
        have WR8:=Ko
        have WRU:=ZY
        refine QL (fun z_=>Below w.heap.size w z_∧Blk z_ gb2 75 #[Ii 0,Ii 0,Ii 0]∧Blk z_ gb8 75 #[Ii t5,Ii t6,Ii t7]∧Blk z_ gb10 28 #[Ii ((nt t4 t6.toNat (0,0,0,false)).1),Ii ((nt t4 t6.toNat (0,0,0,false)).2.1),Ii t12,.bool ((nt t4 t6.toNat (0,0,0,false)).2.2.2)]∧Blk z_ gb14 75 #[Ii t11,Ii t12,Ii t13]∧Blk z_ gb18 75 #[Ii t15,Ii t16,Ii t17]∧Own z_ w.heap.size 9 (ut3) (t3.map Value.string)∧True) [3] [(0,2),(1,1),(2,0),(3,0)] (by kernel_rfl) (by kernel_rfl) (by kernel_rfl) rfl ?_
        intro w62 hb_
        replace BKb1:=hid (BKb1.out.below hb_ BKb1.out.lt)
        replace BKb2:=hid (BKb2.out.below hb_ BKb2.out.lt)
        replace BKb8:=hid (BKb8.out.below hb_ BKb8.out.lt)
        replace BKb10:=hid (BKb10.out.below hb_ BKb10.out.lt)
        replace BKb14:=hid (BKb14.out.below hb_ BKb14.out.lt)
        replace BKb18:=hid (BKb18.out.below hb_ BKb18.out.lt)
        replace SWt3:=hid (SWt3.out.below hb_)
        replace HL:=hid (HL.out.trans (hb_.mono HL.out.size))
        clear hb_
        refine Qe (.agg #[Ii 0,Ii 0,Ii 0,.bool false]) rfl (fun z_=>Xs (.agg #[Ii 0,Ii 0,Ii 0,.bool false]) _ rfl (by intro ww_;kernel_rfl)) rfl rfl ?_
        intro t_ k_;simp only [sI,sZ,sS] at k_;subst k_
        refine QA (.agg #[Ii t15,Ii t16,Ii t17]) ⟨HL.out,BKb2.out,BKb8.out,BKb10.out,BKb14.out,BKb18.out,SWt3.out,trivial⟩ rfl (fun z_ hS_=>QI Qs gb18 0 #[Ii t15,Ii t16,Ii t17] #[Ii t15,Ii t16,Ii t17] hS_.2.2.2.2.2.1 (by simp) rfl _ rfl rfl) rfl rfl ?_
        intro t_ k_;simp only [sI,sZ,sS] at k_;subst k_
        refine QV rfl (fun Q'_ hQ_=>?_)
        (with_reducible refine Qf (t:=28) (p:=4) rfl ?_)
        refine Qg Zp gb1 0 #[Ii 0,Ii 0,Ii 0,.bool false] #[Ii 0,Ii 0,Ii 0,.bool false] #[Ii 0,Ii 0,Ii 0,.bool false] BKb1.out rfl (by simp) (by intro v_ hv_;simp at hv_;rcases hv_ with rfl|rfl|rfl|rfl <;> first|rfl) rfl rfl _ _ rfl rfl rfl ?_
        intro w63 ho_ hB_
        replace BKb2:=hid (BKb2.out.off ho_ NBb2_b1.out)
        replace BKb8:=hid (BKb8.out.off ho_ NBb8_b1.out)
        replace BKb10:=hid (BKb10.out.off ho_ NBb10_b1.out)
        replace BKb14:=hid (BKb14.out.off ho_ NBb14_b1.out)
        replace BKb18:=hid (BKb18.out.off ho_ NBb18_b1.out)
        replace SWt3:=hid (SWt3.out.off ho_ BKb1.out (by decide))
        replace HL:=hid (ho_.below HL.out GEb1.out)
        replace BKb1:=hid hB_
        clear ho_ hB_
        refine Qz ?_
        refine hQ_ _ _ (fun _=>⟨HL.out,BKb2.out,BKb8.out,BKb10.out,BKb14.out,BKb18.out,SWt3.out,trivial⟩) ?_
        clear hQ_ Q'_
        simp only [Act.put]
        refine QV rfl (fun Q'_ hQ_=>?_)
        (with_reducible refine Qf (t:=75) (p:=5) rfl ?_)
        refine Qg Qs gb2 0 #[Ii 0,Ii 0,Ii 0] #[Ii t15,Ii t16,Ii t17] #[Ii t15,Ii t16,Ii t17] BKb2.out rfl (by simp) (by intro v_ hv_;simp at hv_;rcases hv_ with rfl|rfl|rfl <;> first|rfl) rfl rfl _ _ rfl rfl rfl ?_
        intro w64 ho_ hB_
        replace BKb1:=hid (BKb1.out.off ho_ NBb1_b2.out)
        replace BKb8:=hid (BKb8.out.off ho_ NBb8_b2.out)
        replace BKb10:=hid (BKb10.out.off ho_ NBb10_b2.out)
        replace BKb14:=hid (BKb14.out.off ho_ NBb14_b2.out)
        replace BKb18:=hid (BKb18.out.off ho_ NBb18_b2.out)
        replace SWt3:=hid (SWt3.out.off ho_ BKb2.out (by decide))
        replace HL:=hid (ho_.below HL.out GEb2.out)
        replace BKb2:=hid hB_
        clear ho_ hB_
        refine Qz ?_
        refine hQ_ _ _ (fun h_=>absurd h_ (by decide)) ?_
        clear hQ_ Q'_
        simp only [Act.put]
        refine JH ?_
        clear WR64 WR32 WR8 WRU
        go_wp2_with fail
        (try simp only [Act.put,sI,sZ,sS])
        refine bodyPost_ret (v:=.tuple #[.agg #[Ii 0,Ii 0,Ii 0,.bool false],.agg #[Ii t15,Ii t16,Ii t17]]) (VC Zp Qs rfl _ gb1 gb2 #[Ii 0,Ii 0,Ii 0,.bool false] #[Ii t15,Ii t16,Ii t17] BKb1.out rfl rfl BKb2.out rfl rfl) rfl ?_
        exact ⟨by first|rfl|(simp;done)|(simp [*];done),HL.out⟩
      ·
       rw [if_neg c45] at H
       have c45b0:(t12==0)=false:=beq_eq_false_iff_ne.mpr c45
       have c45b1:(t12 != 0)=true:=bne_iff_ne.mpr c45
       have hc45:=hid c45
       clear c45
       have H':=hid H
       clear H
       have k66:=True.intro
       go_wp2_with (first
        |(go_at_call 65;clear k66;refine (Qw.c k a0 t5 0 64 t11 t12 t13 _ A37.out).mono ?_;rintro e_ w67 ⟨rfl,hb_⟩;replace BKb1:=hid (BKb1.out.below hb_ BKb1.out.lt);replace BKb2:=hid (BKb2.out.below hb_ BKb2.out.lt);replace BKb8:=hid (BKb8.out.below hb_ BKb8.out.lt);replace BKb10:=hid (BKb10.out.below hb_ BKb10.out.lt);replace SWt3:=hid (SWt3.out.below hb_);replace SWt4:=hid (SWt4.out.below hb_);replace HL:=hid (HL.out.trans (hb_.mono HL.out.size));clear hb_)
        |((with_reducible refine Qa (N:=11) rfl ?_);obtain ⟨gb14,hgb14⟩:∃ g_,w67.heap.size=g_:=⟨_,rfl⟩;refine Zl Qs #[Ii t11,Ii t12,Ii t13] gb14 hgb14 rfl (by intro v_ hv_;simp at hv_;rcases hv_ with rfl|rfl|rfl <;> first|rfl) rfl rfl 11 rfl _ _ rfl (fun _=>rfl) (fun _=>rfl) rfl ?_;intro w68 hb_ hB_ hs_;have GEb14:Hid (w.heap.size≤gb14):=hid (by have:=HL.out.size;omega);have NBb1_b14:Hid (gb1≠gb14):=hid (by have:=BKb1.out.lt;omega);have NBb14_b1:Hid (gb14≠gb1):=hid (by have:=NBb1_b14.out;omega);replace BKb1:=hid (BKb1.out.below hb_ (by rw [← hgb14];exact BKb1.out.lt));have NBb2_b14:Hid (gb2≠gb14):=hid (by have:=BKb2.out.lt;omega);have NBb14_b2:Hid (gb14≠gb2):=hid (by have:=NBb2_b14.out;omega);replace BKb2:=hid (BKb2.out.below hb_ (by rw [← hgb14];exact BKb2.out.lt));have NBb8_b14:Hid (gb8≠gb14):=hid (by have:=BKb8.out.lt;omega);have NBb14_b8:Hid (gb14≠gb8):=hid (by have:=NBb8_b14.out;omega);replace BKb8:=hid (BKb8.out.below hb_ (by rw [← hgb14];exact BKb8.out.lt));have NBb10_b14:Hid (gb10≠gb14):=hid (by have:=BKb10.out.lt;omega);have NBb14_b10:Hid (gb14≠gb10):=hid (by have:=NBb10_b14.out;omega);replace BKb10:=hid (BKb10.out.below hb_ (by rw [← hgb14];exact BKb10.out.lt));replace SWt3:=hid (SWt3.out.below (by rw [hgb14];exact hb_));replace SWt4:=hid (SWt4.out.below (by rw [hgb14];exact hb_));replace HL:=hid (HL.out.trans (hb_.mono GEb14.out));have BKb14:=hid hB_;clear hb_ hB_ hs_ hgb14)
        |((with_reducible refine Qa (N:=40) rfl ?_);refine Qb (Pg gb14 2) (Qc 75 2 (Pg gb14 0) (Pg gb14 2) (Js gb14) _ rfl rfl) rfl ?_)
        |((with_reducible refine Qa (N:=41) rfl ?_);refine Qb (Ii t13) (Qd Zk gb14 (2) (Ii t13) (#[Ii t11,Ii t12,Ii t13]) BKb14.out rfl _ rfl rfl) rfl ?_)
        |((with_reducible refine Qa (N:=45) rfl ?_);refine Qb (Pg gb14 1) (Qc 75 1 (Pg gb14 0) (Pg gb14 1) (Ka gb14) _ rfl rfl) rfl ?_)
        |((with_reducible refine Qa (N:=46) rfl ?_);refine Qb (Ii t12) (Qd sT3 gb14 (1) (Ii t12) (#[Ii t11,Ii t12,Ii t13]) BKb14.out rfl _ rfl rfl) rfl ?_)
        |((with_reducible refine Qa (N:=47) rfl ?_);refine Qb (Pg gb10 2) (Qc 28 2 (Pg gb10 0) (Pg gb10 2) (Jd gb10) _ rfl rfl) rfl ?_)
        |((with_reducible refine Qf (t:=3) (p:=47) rfl ?_);refine QH sT3 gb10 (2) (Ii t12) #[Ii ((nt t4 t6.toNat (0,0,0,false)).1),Ii ((nt t4 t6.toNat (0,0,0,false)).2.1),Ii ((nt t4 t6.toNat (0,0,0,false)).2.2.1),.bool ((nt t4 t6.toNat (0,0,0,false)).2.2.2)] #[Ii ((nt t4 t6.toNat (0,0,0,false)).1),Ii ((nt t4 t6.toNat (0,0,0,false)).2.1),Ii t12,.bool ((nt t4 t6.toNat (0,0,0,false)).2.2.2)] BKb10.out (by simp) rfl rfl rfl rfl _ _ rfl rfl rfl ?_;intro w69 ho_ hB_;replace BKb1:=hid (BKb1.out.off ho_ NBb1_b10.out);replace BKb2:=hid (BKb2.out.off ho_ NBb2_b10.out);replace BKb8:=hid (BKb8.out.off ho_ NBb8_b10.out);replace BKb14:=hid (BKb14.out.off ho_ NBb14_b10.out);clear SWt4;replace SWt3:=hid (SWt3.out.off ho_ BKb10.out (by decide));replace HL:=hid (ho_.below HL.out GEb10.out);replace BKb10:=hid hB_;clear ho_ hB_)
        |((with_reducible refine Qa (N:=48) rfl ?_);refine Qb (Pg gb10 0) (Qc 28 0 (Pg gb10 0) (Pg gb10 0) (Qv gb10) _ rfl rfl) rfl ?_)
        |((with_reducible refine Qa (N:=49) rfl ?_);refine Qb (Ii ((nt t4 t6.toNat (0,0,0,false)).1)) (Qd sT3 gb10 (0) (Ii ((nt t4 t6.toNat (0,0,0,false)).1)) (#[Ii ((nt t4 t6.toNat (0,0,0,false)).1),Ii ((nt t4 t6.toNat (0,0,0,false)).2.1),Ii t12,.bool ((nt t4 t6.toNat (0,0,0,false)).2.2.2)]) BKb10.out rfl _ rfl rfl) rfl ?_)
        |((with_reducible refine Qa (N:=55) rfl ?_);refine Qb (Pg gb10 2) (Qc 28 2 (Pg gb10 0) (Pg gb10 2) (Jd gb10) _ rfl rfl) rfl ?_)
        |((with_reducible refine Qa (N:=56) rfl ?_);refine Qb (Ii t12) (Qd sT3 gb10 (2) (Ii t12) (#[Ii ((nt t4 t6.toNat (0,0,0,false)).1),Ii ((nt t4 t6.toNat (0,0,0,false)).2.1),Ii t12,.bool ((nt t4 t6.toNat (0,0,0,false)).2.2.2)]) BKb10.out rfl _ rfl rfl) rfl ?_)
        |((with_reducible refine Qa (N:=73) rfl ?_);refine Qb (Pg gb14 0) (Qc 75 0 (Pg gb14 0) (Pg gb14 0) (ZC gb14) _ rfl rfl) rfl ?_)
        |((with_reducible refine Qa (N:=74) rfl ?_);refine Qb (Ii t11) (Qd sT3 gb14 (0) (Ii t11) (#[Ii t11,Ii t12,Ii t13]) BKb14.out rfl _ rfl rfl) rfl ?_))
       (try simp only [Act.put,sI,sZ,sS])
       have H:=H'.out
       clear H'
       replace H:=Ia H
       obtain ⟨⟨t19,t20,t21⟩,A65_,H⟩:=H
       dsimp only at H
       have A65:=hid A65_
       clear A65_
       by_cases c70:t21=0
       ·
        rw [if_pos c70] at H
        have c70b0:(t21==0)=true:=beq_iff_eq.mpr c70
        have c70b1:(t21 != 0)=false:=bne_eq_false_iff_eq.mpr c70
        have hc70:=hid c70
        clear c70
        simp only [Option.some.injEq,Prod.mk.injEq] at H
        obtain ⟨rfl,rfl,rfl,rfl,rfl,rfl,rfl⟩:=H
        have k71:=True.intro
        go_wp2_with (first
         |(go_at_call 75;clear k71;refine (Zv.c k a0 t11 t19 t20 t21 _ A65.out).mono ?_;rintro e_ w72 ⟨rfl,hb_⟩;replace BKb1:=hid (BKb1.out.below hb_ BKb1.out.lt);replace BKb2:=hid (BKb2.out.below hb_ BKb2.out.lt);replace BKb8:=hid (BKb8.out.below hb_ BKb8.out.lt);replace BKb10:=hid (BKb10.out.below hb_ BKb10.out.lt);replace BKb14:=hid (BKb14.out.below hb_ BKb14.out.lt);replace SWt3:=hid (SWt3.out.below hb_);replace HL:=hid (HL.out.trans (hb_.mono HL.out.size));clear hb_)
         |((with_reducible refine Qa (N:=13) rfl ?_);obtain ⟨gb22,hgb22⟩:∃ g_,w72.heap.size=g_:=⟨_,rfl⟩;refine Zl Qs #[Ii t19,Ii t20,Ii t21] gb22 hgb22 rfl (by intro v_ hv_;simp at hv_;rcases hv_ with rfl|rfl|rfl <;> first|rfl) rfl rfl 13 rfl _ _ rfl (fun _=>rfl) (fun _=>rfl) rfl ?_;intro w73 hb_ hB_ hs_;have GEb22:Hid (w.heap.size≤gb22):=hid (by have:=HL.out.size;omega);have NBb1_b22:Hid (gb1≠gb22):=hid (by have:=BKb1.out.lt;omega);have NBb22_b1:Hid (gb22≠gb1):=hid (by have:=NBb1_b22.out;omega);replace BKb1:=hid (BKb1.out.below hb_ (by rw [← hgb22];exact BKb1.out.lt));have NBb2_b22:Hid (gb2≠gb22):=hid (by have:=BKb2.out.lt;omega);have NBb22_b2:Hid (gb22≠gb2):=hid (by have:=NBb2_b22.out;omega);replace BKb2:=hid (BKb2.out.below hb_ (by rw [← hgb22];exact BKb2.out.lt));have NBb8_b22:Hid (gb8≠gb22):=hid (by have:=BKb8.out.lt;omega);have NBb22_b8:Hid (gb22≠gb8):=hid (by have:=NBb8_b22.out;omega);replace BKb8:=hid (BKb8.out.below hb_ (by rw [← hgb22];exact BKb8.out.lt));have NBb10_b22:Hid (gb10≠gb22):=hid (by have:=BKb10.out.lt;omega);have NBb22_b10:Hid (gb22≠gb10):=hid (by have:=NBb10_b22.out;omega);replace BKb10:=hid (BKb10.out.below hb_ (by rw [← hgb22];exact BKb10.out.lt));have NBb14_b22:Hid (gb14≠gb22):=hid (by have:=BKb14.out.lt;omega);have NBb22_b14:Hid (gb22≠gb14):=hid (by have:=NBb14_b22.out;omega);replace BKb14:=hid (BKb14.out.below hb_ (by rw [← hgb22];exact BKb14.out.lt));replace SWt3:=hid (SWt3.out.below (by rw [hgb22];exact hb_));replace HL:=hid (HL.out.trans (hb_.mono GEb22.out));have BKb22:=hid hB_;clear hb_ hB_ hs_ hgb22)
         |((with_reducible refine Qa (N:=76) rfl ?_);refine Qb (Pg gb22 2) (Qc 75 2 (Pg gb22 0) (Pg gb22 2) (Js gb22) _ rfl rfl) rfl ?_)
         |((with_reducible refine Qa (N:=77) rfl ?_);refine Qb (Ii t21) (Qd Zk gb22 (2) (Ii t21) (#[Ii t19,Ii t20,Ii t21]) BKb22.out rfl _ rfl rfl) rfl ?_)
         |((with_reducible refine Qa (N:=85) rfl ?_);refine Qb (Pg gb22 1) (Qc 75 1 (Pg gb22 0) (Pg gb22 1) (Ka gb22) _ rfl rfl) rfl ?_)
         |((with_reducible refine Qa (N:=86) rfl ?_);refine Qb (Ii t20) (Qd sT3 gb22 (1) (Ii t20) (#[Ii t19,Ii t20,Ii t21]) BKb22.out rfl _ rfl rfl) rfl ?_)
         |((with_reducible refine Qa (N:=88) rfl ?_);refine Qb (Pg gb10 3) (Qc 28 3 (Pg gb10 0) (Pg gb10 3) (Xk gb10) _ rfl rfl) rfl ?_)
         |((with_reducible refine Qf (t:=4) (p:=88) rfl ?_);refine QH sT4 gb10 (3) (.bool (t20==1)) #[Ii ((nt t4 t6.toNat (0,0,0,false)).1),Ii ((nt t4 t6.toNat (0,0,0,false)).2.1),Ii t12,.bool ((nt t4 t6.toNat (0,0,0,false)).2.2.2)] #[Ii ((nt t4 t6.toNat (0,0,0,false)).1),Ii ((nt t4 t6.toNat (0,0,0,false)).2.1),Ii t12,.bool (t20==1)] BKb10.out (by simp) rfl rfl rfl rfl _ _ rfl rfl rfl ?_;intro w74 ho_ hB_;replace BKb1:=hid (BKb1.out.off ho_ NBb1_b10.out);replace BKb2:=hid (BKb2.out.off ho_ NBb2_b10.out);replace BKb8:=hid (BKb8.out.off ho_ NBb8_b10.out);replace BKb14:=hid (BKb14.out.off ho_ NBb14_b10.out);replace BKb22:=hid (BKb22.out.off ho_ NBb22_b10.out);replace SWt3:=hid (SWt3.out.off ho_ BKb10.out (by decide));replace HL:=hid (ho_.below HL.out GEb10.out);replace BKb10:=hid hB_;clear ho_ hB_))
        (try simp only [Act.put,sI,sZ,sS])
        have WR64:=Zs
        have WR32:=ZA
        have WR8:=Ko
        have WRU:=ZY
        refine QL (fun z_=>Below w.heap.size w z_∧Blk z_ gb2 75 #[Ii 0,Ii 0,Ii 0]∧Blk z_ gb8 75 #[Ii t5,Ii t6,Ii t7]∧Blk z_ gb10 28 #[Ii ((nt t4 t6.toNat (0,0,0,false)).1),Ii ((nt t4 t6.toNat (0,0,0,false)).2.1),Ii t12,.bool (t20==1)]∧Blk z_ gb14 75 #[Ii t11,Ii t12,Ii t13]∧Blk z_ gb22 75 #[Ii t19,Ii t20,Ii t21]∧Own z_ w.heap.size 9 (ut3) (t3.map Value.string)∧True) [5] [(0,1),(1,2),(2,1),(3,2),(4,0),(5,0)] (by kernel_rfl) (by kernel_rfl) (by kernel_rfl) rfl ?_
        intro w75 hb_
        replace BKb1:=hid (BKb1.out.below hb_ BKb1.out.lt)
        replace BKb2:=hid (BKb2.out.below hb_ BKb2.out.lt)
        replace BKb8:=hid (BKb8.out.below hb_ BKb8.out.lt)
        replace BKb10:=hid (BKb10.out.below hb_ BKb10.out.lt)
        replace BKb14:=hid (BKb14.out.below hb_ BKb14.out.lt)
        replace BKb22:=hid (BKb22.out.below hb_ BKb22.out.lt)
        replace SWt3:=hid (SWt3.out.below hb_)
        replace HL:=hid (HL.out.trans (hb_.mono HL.out.size))
        clear hb_
        refine QA (.agg #[Ii ((nt t4 t6.toNat (0,0,0,false)).1),Ii ((nt t4 t6.toNat (0,0,0,false)).2.1),Ii t12,.bool (t20==1)]) ⟨HL.out,BKb2.out,BKb8.out,BKb10.out,BKb14.out,BKb22.out,SWt3.out,trivial⟩ rfl (fun z_ hS_=>QI Zp gb10 0 #[Ii ((nt t4 t6.toNat (0,0,0,false)).1),Ii ((nt t4 t6.toNat (0,0,0,false)).2.1),Ii t12,.bool (t20==1)] #[Ii ((nt t4 t6.toNat (0,0,0,false)).1),Ii ((nt t4 t6.toNat (0,0,0,false)).2.1),Ii t12,.bool (t20==1)] hS_.2.2.2.1 (by simp) rfl _ rfl rfl) rfl rfl ?_
        intro t_ k_;simp only [sI,sZ,sS] at k_;subst k_
        refine Qe (Pg gb22 0) rfl (fun z_=>Qc 75 0 (Pg gb22 0) (Pg gb22 0) (ZC gb22) _ rfl rfl) rfl rfl ?_
        intro t_ k_;simp only [sI,sZ,sS] at k_;subst k_
        refine QA (Ii t19) ⟨HL.out,BKb2.out,BKb8.out,BKb10.out,BKb14.out,BKb22.out,SWt3.out,trivial⟩ rfl (fun z_ hS_=>Qd sT3 gb22 (0) (Ii t19) (#[Ii t19,Ii t20,Ii t21]) hS_.2.2.2.2.2.1 rfl _ rfl rfl) rfl rfl ?_
        intro t_ k_;simp only [sI,sZ,sS] at k_;subst k_
        refine Qe (.agg #[Ii t19,Ii 0,Ii 0]) rfl (fun z_=>Xs (.agg #[Ii t19,Ii 0,Ii 0]) _ rfl (by intro ww_;simp only [List.map_toArray,List.map_cons,List.map_nil];kernel_rfl)) rfl rfl ?_
        intro t_ k_;simp only [sI,sZ,sS] at k_;subst k_
        refine QV rfl (fun Q'_ hQ_=>?_)
        (with_reducible refine Qf (t:=28) (p:=4) rfl ?_)
        refine Qg Zp gb1 0 #[Ii 0,Ii 0,Ii 0,.bool false] #[Ii ((nt t4 t6.toNat (0,0,0,false)).1),Ii ((nt t4 t6.toNat (0,0,0,false)).2.1),Ii t12,.bool (t20==1)] #[Ii ((nt t4 t6.toNat (0,0,0,false)).1),Ii ((nt t4 t6.toNat (0,0,0,false)).2.1),Ii t12,.bool (t20==1)] BKb1.out rfl (by simp) (by intro v_ hv_;simp at hv_;rcases hv_ with rfl|rfl|rfl|rfl <;> first|rfl) rfl rfl _ _ rfl rfl rfl ?_
        intro w76 ho_ hB_
        replace BKb2:=hid (BKb2.out.off ho_ NBb2_b1.out)
        replace BKb8:=hid (BKb8.out.off ho_ NBb8_b1.out)
        replace BKb10:=hid (BKb10.out.off ho_ NBb10_b1.out)
        replace BKb14:=hid (BKb14.out.off ho_ NBb14_b1.out)
        replace BKb22:=hid (BKb22.out.off ho_ NBb22_b1.out)
        replace SWt3:=hid (SWt3.out.off ho_ BKb1.out (by decide))
        replace HL:=hid (ho_.below HL.out GEb1.out)
        replace BKb1:=hid hB_
        clear ho_ hB_
        refine Qz ?_
        refine hQ_ _ _ (fun _=>⟨HL.out,BKb2.out,BKb8.out,BKb10.out,BKb14.out,BKb22.out,SWt3.out,trivial⟩) ?_
        clear hQ_ Q'_
        simp only [Act.put]
        refine QV rfl (fun Q'_ hQ_=>?_)
        (with_reducible refine Qf (t:=75) (p:=5) rfl ?_)
        refine Qg Qs gb2 0 #[Ii 0,Ii 0,Ii 0] #[Ii t19,Ii 0,Ii 0] #[Ii t19,Ii 0,Ii 0] BKb2.out rfl (by simp) (by intro v_ hv_;simp at hv_;rcases hv_ with rfl|rfl|rfl <;> first|rfl) rfl rfl _ _ rfl rfl rfl ?_
        intro w77 ho_ hB_
        replace BKb1:=hid (BKb1.out.off ho_ NBb1_b2.out)
        replace BKb8:=hid (BKb8.out.off ho_ NBb8_b2.out)
        replace BKb10:=hid (BKb10.out.off ho_ NBb10_b2.out)
        replace BKb14:=hid (BKb14.out.off ho_ NBb14_b2.out)
        replace BKb22:=hid (BKb22.out.off ho_ NBb22_b2.out)
        replace SWt3:=hid (SWt3.out.off ho_ BKb2.out (by decide))
        replace HL:=hid (ho_.below HL.out GEb2.out)
        replace BKb2:=hid hB_
        clear ho_ hB_
        refine Qz ?_
        refine hQ_ _ _ (fun h_=>absurd h_ (by decide)) ?_
        clear hQ_ Q'_
        simp only [Act.put]
        refine JH ?_
        clear WR64 WR32 WR8 WRU
        go_wp2_with fail
        (try simp only [Act.put,sI,sZ,sS])
        refine bodyPost_ret (v:=.tuple #[.agg #[Ii ((nt t4 t6.toNat (0,0,0,false)).1),Ii ((nt t4 t6.toNat (0,0,0,false)).2.1),Ii t12,.bool (t20==1)],.agg #[Ii t19,Ii 0,Ii 0]]) (VC Zp Qs rfl _ gb1 gb2 #[Ii ((nt t4 t6.toNat (0,0,0,false)).1),Ii ((nt t4 t6.toNat (0,0,0,false)).2.1),Ii t12,.bool (t20==1)] #[Ii t19,Ii 0,Ii 0] BKb1.out rfl rfl BKb2.out rfl rfl) rfl ?_
        exact ⟨by first|rfl|(simp;done)|(simp [*];done),HL.out⟩
       ·
        rw [if_neg c70] at H
        have c70b0:(t21==0)=false:=beq_eq_false_iff_ne.mpr c70
        have c70b1:(t21 != 0)=true:=bne_iff_ne.mpr c70
        have hc70:=hid c70
        clear c70
        simp only [Option.some.injEq,Prod.mk.injEq] at H
        obtain ⟨rfl,rfl,rfl,rfl,rfl,rfl,rfl⟩:=H
        have k78:=True.intro
        go_wp2_with (first
         |(go_at_call 75;clear k78;refine (Zv.c k a0 t11 t19 t20 t21 _ A65.out).mono ?_;rintro e_ w79 ⟨rfl,hb_⟩;replace BKb1:=hid (BKb1.out.below hb_ BKb1.out.lt);replace BKb2:=hid (BKb2.out.below hb_ BKb2.out.lt);replace BKb8:=hid (BKb8.out.below hb_ BKb8.out.lt);replace BKb10:=hid (BKb10.out.below hb_ BKb10.out.lt);replace BKb14:=hid (BKb14.out.below hb_ BKb14.out.lt);replace SWt3:=hid (SWt3.out.below hb_);replace HL:=hid (HL.out.trans (hb_.mono HL.out.size));clear hb_)
         |((with_reducible refine Qa (N:=13) rfl ?_);obtain ⟨gb22,hgb22⟩:∃ g_,w79.heap.size=g_:=⟨_,rfl⟩;refine Zl Qs #[Ii t19,Ii t20,Ii t21] gb22 hgb22 rfl (by intro v_ hv_;simp at hv_;rcases hv_ with rfl|rfl|rfl <;> first|rfl) rfl rfl 13 rfl _ _ rfl (fun _=>rfl) (fun _=>rfl) rfl ?_;intro w80 hb_ hB_ hs_;have GEb22:Hid (w.heap.size≤gb22):=hid (by have:=HL.out.size;omega);have NBb1_b22:Hid (gb1≠gb22):=hid (by have:=BKb1.out.lt;omega);have NBb22_b1:Hid (gb22≠gb1):=hid (by have:=NBb1_b22.out;omega);replace BKb1:=hid (BKb1.out.below hb_ (by rw [← hgb22];exact BKb1.out.lt));have NBb2_b22:Hid (gb2≠gb22):=hid (by have:=BKb2.out.lt;omega);have NBb22_b2:Hid (gb22≠gb2):=hid (by have:=NBb2_b22.out;omega);replace BKb2:=hid (BKb2.out.below hb_ (by rw [← hgb22];exact BKb2.out.lt));have NBb8_b22:Hid (gb8≠gb22):=hid (by have:=BKb8.out.lt;omega);have NBb22_b8:Hid (gb22≠gb8):=hid (by have:=NBb8_b22.out;omega);replace BKb8:=hid (BKb8.out.below hb_ (by rw [← hgb22];exact BKb8.out.lt));have NBb10_b22:Hid (gb10≠gb22):=hid (by have:=BKb10.out.lt;omega);have NBb22_b10:Hid (gb22≠gb10):=hid (by have:=NBb10_b22.out;omega);replace BKb10:=hid (BKb10.out.below hb_ (by rw [← hgb22];exact BKb10.out.lt));have NBb14_b22:Hid (gb14≠gb22):=hid (by have:=BKb14.out.lt;omega);have NBb22_b14:Hid (gb22≠gb14):=hid (by have:=NBb14_b22.out;omega);replace BKb14:=hid (BKb14.out.below hb_ (by rw [← hgb22];exact BKb14.out.lt));replace SWt3:=hid (SWt3.out.below (by rw [hgb22];exact hb_));replace HL:=hid (HL.out.trans (hb_.mono GEb22.out));have BKb22:=hid hB_;clear hb_ hB_ hs_ hgb22)
         |((with_reducible refine Qa (N:=76) rfl ?_);refine Qb (Pg gb22 2) (Qc 75 2 (Pg gb22 0) (Pg gb22 2) (Js gb22) _ rfl rfl) rfl ?_)
         |((with_reducible refine Qa (N:=77) rfl ?_);refine Qb (Ii t21) (Qd Zk gb22 (2) (Ii t21) (#[Ii t19,Ii t20,Ii t21]) BKb22.out rfl _ rfl rfl) rfl ?_))
        (try simp only [Act.put,sI,sZ,sS])
        have WR64:=Zs
        have WR32:=ZA
        have WR8:=Ko
        have WRU:=ZY
        refine QL (fun z_=>Below w.heap.size w z_∧Blk z_ gb2 75 #[Ii 0,Ii 0,Ii 0]∧Blk z_ gb8 75 #[Ii t5,Ii t6,Ii t7]∧Blk z_ gb10 28 #[Ii ((nt t4 t6.toNat (0,0,0,false)).1),Ii ((nt t4 t6.toNat (0,0,0,false)).2.1),Ii t12,.bool ((nt t4 t6.toNat (0,0,0,false)).2.2.2)]∧Blk z_ gb14 75 #[Ii t11,Ii t12,Ii t13]∧Blk z_ gb22 75 #[Ii t19,Ii t20,Ii t21]∧Own z_ w.heap.size 9 (ut3) (t3.map Value.string)∧True) [7] [(0,2),(1,2),(2,1),(3,2),(4,1),(5,2),(6,0),(7,0)] (by kernel_rfl) (by kernel_rfl) (by kernel_rfl) rfl ?_
        intro w81 hb_
        replace BKb1:=hid (BKb1.out.below hb_ BKb1.out.lt)
        replace BKb2:=hid (BKb2.out.below hb_ BKb2.out.lt)
        replace BKb8:=hid (BKb8.out.below hb_ BKb8.out.lt)
        replace BKb10:=hid (BKb10.out.below hb_ BKb10.out.lt)
        replace BKb14:=hid (BKb14.out.below hb_ BKb14.out.lt)
        replace BKb22:=hid (BKb22.out.below hb_ BKb22.out.lt)
        replace SWt3:=hid (SWt3.out.below hb_)
        replace HL:=hid (HL.out.trans (hb_.mono HL.out.size))
        clear hb_
        refine Qe (.agg #[Ii 0,Ii 0,Ii 0,.bool false]) rfl (fun z_=>Xs (.agg #[Ii 0,Ii 0,Ii 0,.bool false]) _ rfl (by intro ww_;kernel_rfl)) rfl rfl ?_
        intro t_ k_;simp only [sI,sZ,sS] at k_;subst k_
        refine Qe (Pg gb22 0) rfl (fun z_=>Qc 75 0 (Pg gb22 0) (Pg gb22 0) (ZC gb22) _ rfl rfl) rfl rfl ?_
        intro t_ k_;simp only [sI,sZ,sS] at k_;subst k_
        refine QA (Ii t19) ⟨HL.out,BKb2.out,BKb8.out,BKb10.out,BKb14.out,BKb22.out,SWt3.out,trivial⟩ rfl (fun z_ hS_=>Qd sT3 gb22 (0) (Ii t19) (#[Ii t19,Ii t20,Ii t21]) hS_.2.2.2.2.2.1 rfl _ rfl rfl) rfl rfl ?_
        intro t_ k_;simp only [sI,sZ,sS] at k_;subst k_
        refine Qe (Pg gb22 2) rfl (fun z_=>Qc 75 2 (Pg gb22 0) (Pg gb22 2) (Js gb22) _ rfl rfl) rfl rfl ?_
        intro t_ k_;simp only [sI,sZ,sS] at k_;subst k_
        refine QA (Ii t21) ⟨HL.out,BKb2.out,BKb8.out,BKb10.out,BKb14.out,BKb22.out,SWt3.out,trivial⟩ rfl (fun z_ hS_=>Qd Zk gb22 (2) (Ii t21) (#[Ii t19,Ii t20,Ii t21]) hS_.2.2.2.2.2.1 rfl _ rfl rfl) rfl rfl ?_
        intro t_ k_;simp only [sI,sZ,sS] at k_;subst k_
        refine Qe (.agg #[Ii t19,Ii 0,Ii t21]) rfl (fun z_=>Xs (.agg #[Ii t19,Ii 0,Ii t21]) _ rfl (by intro ww_;simp only [List.map_toArray,List.map_cons,List.map_nil];kernel_rfl)) rfl rfl ?_
        intro t_ k_;simp only [sI,sZ,sS] at k_;subst k_
        refine QV rfl (fun Q'_ hQ_=>?_)
        (with_reducible refine Qf (t:=28) (p:=4) rfl ?_)
        refine Qg Zp gb1 0 #[Ii 0,Ii 0,Ii 0,.bool false] #[Ii 0,Ii 0,Ii 0,.bool false] #[Ii 0,Ii 0,Ii 0,.bool false] BKb1.out rfl (by simp) (by intro v_ hv_;simp at hv_;rcases hv_ with rfl|rfl|rfl|rfl <;> first|rfl) rfl rfl _ _ rfl rfl rfl ?_
        intro w82 ho_ hB_
        replace BKb2:=hid (BKb2.out.off ho_ NBb2_b1.out)
        replace BKb8:=hid (BKb8.out.off ho_ NBb8_b1.out)
        replace BKb10:=hid (BKb10.out.off ho_ NBb10_b1.out)
        replace BKb14:=hid (BKb14.out.off ho_ NBb14_b1.out)
        replace BKb22:=hid (BKb22.out.off ho_ NBb22_b1.out)
        replace SWt3:=hid (SWt3.out.off ho_ BKb1.out (by decide))
        replace HL:=hid (ho_.below HL.out GEb1.out)
        replace BKb1:=hid hB_
        clear ho_ hB_
        refine Qz ?_
        refine hQ_ _ _ (fun _=>⟨HL.out,BKb2.out,BKb8.out,BKb10.out,BKb14.out,BKb22.out,SWt3.out,trivial⟩) ?_
        clear hQ_ Q'_
        simp only [Act.put]
        refine QV rfl (fun Q'_ hQ_=>?_)
        (with_reducible refine Qf (t:=75) (p:=5) rfl ?_)
        refine Qg Qs gb2 0 #[Ii 0,Ii 0,Ii 0] #[Ii t19,Ii 0,Ii t21] #[Ii t19,Ii 0,Ii t21] BKb2.out rfl (by simp) (by intro v_ hv_;simp at hv_;rcases hv_ with rfl|rfl|rfl <;> first|rfl) rfl rfl _ _ rfl rfl rfl ?_
        intro w83 ho_ hB_
        replace BKb1:=hid (BKb1.out.off ho_ NBb1_b2.out)
        replace BKb8:=hid (BKb8.out.off ho_ NBb8_b2.out)
        replace BKb10:=hid (BKb10.out.off ho_ NBb10_b2.out)
        replace BKb14:=hid (BKb14.out.off ho_ NBb14_b2.out)
        replace BKb22:=hid (BKb22.out.off ho_ NBb22_b2.out)
        replace SWt3:=hid (SWt3.out.off ho_ BKb2.out (by decide))
        replace HL:=hid (ho_.below HL.out GEb2.out)
        replace BKb2:=hid hB_
        clear ho_ hB_
        refine Qz ?_
        refine hQ_ _ _ (fun h_=>absurd h_ (by decide)) ?_
        clear hQ_ Q'_
        simp only [Act.put]
        refine JH ?_
        clear WR64 WR32 WR8 WRU
        go_wp2_with fail
        (try simp only [Act.put,sI,sZ,sS])
        refine bodyPost_ret (v:=.tuple #[.agg #[Ii 0,Ii 0,Ii 0,.bool false],.agg #[Ii t19,Ii 0,Ii t21]]) (VC Zp Qs rfl _ gb1 gb2 #[Ii 0,Ii 0,Ii 0,.bool false] #[Ii t19,Ii 0,Ii t21] BKb1.out rfl rfl BKb2.out rfl rfl) rfl ?_
        exact ⟨by first|rfl|(simp;done)|(simp [*];done),HL.out⟩
     ·
      rw [if_neg c44] at H
      have c44b0:(t13==0)=false:=beq_eq_false_iff_ne.mpr c44
      have c44b1:(t13 != 0)=true:=bne_iff_ne.mpr c44
      have hc44:=hid c44
      clear c44
      simp only [Option.some.injEq,Prod.mk.injEq] at H
      obtain ⟨rfl,rfl,rfl,rfl,rfl,rfl,rfl⟩:=H
      have k84:=True.intro
      go_wp2_with (first
       |(go_at_call 65;clear k84;refine (Qw.c k a0 t5 0 64 t11 t12 t13 _ A37.out).mono ?_;rintro e_ w85 ⟨rfl,hb_⟩;replace BKb1:=hid (BKb1.out.below hb_ BKb1.out.lt);replace BKb2:=hid (BKb2.out.below hb_ BKb2.out.lt);replace BKb8:=hid (BKb8.out.below hb_ BKb8.out.lt);replace BKb10:=hid (BKb10.out.below hb_ BKb10.out.lt);replace SWt3:=hid (SWt3.out.below hb_);replace SWt4:=hid (SWt4.out.below hb_);replace HL:=hid (HL.out.trans (hb_.mono HL.out.size));clear hb_)
       |((with_reducible refine Qa (N:=11) rfl ?_);obtain ⟨gb14,hgb14⟩:∃ g_,w85.heap.size=g_:=⟨_,rfl⟩;refine Zl Qs #[Ii t11,Ii t12,Ii t13] gb14 hgb14 rfl (by intro v_ hv_;simp at hv_;rcases hv_ with rfl|rfl|rfl <;> first|rfl) rfl rfl 11 rfl _ _ rfl (fun _=>rfl) (fun _=>rfl) rfl ?_;intro w86 hb_ hB_ hs_;have GEb14:Hid (w.heap.size≤gb14):=hid (by have:=HL.out.size;omega);have NBb1_b14:Hid (gb1≠gb14):=hid (by have:=BKb1.out.lt;omega);have NBb14_b1:Hid (gb14≠gb1):=hid (by have:=NBb1_b14.out;omega);replace BKb1:=hid (BKb1.out.below hb_ (by rw [← hgb14];exact BKb1.out.lt));have NBb2_b14:Hid (gb2≠gb14):=hid (by have:=BKb2.out.lt;omega);have NBb14_b2:Hid (gb14≠gb2):=hid (by have:=NBb2_b14.out;omega);replace BKb2:=hid (BKb2.out.below hb_ (by rw [← hgb14];exact BKb2.out.lt));have NBb8_b14:Hid (gb8≠gb14):=hid (by have:=BKb8.out.lt;omega);have NBb14_b8:Hid (gb14≠gb8):=hid (by have:=NBb8_b14.out;omega);replace BKb8:=hid (BKb8.out.below hb_ (by rw [← hgb14];exact BKb8.out.lt));have NBb10_b14:Hid (gb10≠gb14):=hid (by have:=BKb10.out.lt;omega);have NBb14_b10:Hid (gb14≠gb10):=hid (by have:=NBb10_b14.out;omega);replace BKb10:=hid (BKb10.out.below hb_ (by rw [← hgb14];exact BKb10.out.lt));replace SWt3:=hid (SWt3.out.below (by rw [hgb14];exact hb_));replace SWt4:=hid (SWt4.out.below (by rw [hgb14];exact hb_));replace HL:=hid (HL.out.trans (hb_.mono GEb14.out));have BKb14:=hid hB_;clear hb_ hB_ hs_ hgb14)
       |((with_reducible refine Qa (N:=40) rfl ?_);refine Qb (Pg gb14 2) (Qc 75 2 (Pg gb14 0) (Pg gb14 2) (Js gb14) _ rfl rfl) rfl ?_)
       |((with_reducible refine Qa (N:=41) rfl ?_);refine Qb (Ii t13) (Qd Zk gb14 (2) (Ii t13) (#[Ii t11,Ii t12,Ii t13]) BKb14.out rfl _ rfl rfl) rfl ?_))
      (try simp only [Act.put,sI,sZ,sS])
      have WR64:=Zs
      have WR32:=ZA
      have WR8:=Ko
      have WRU:=ZY
      refine QL (fun z_=>Below w.heap.size w z_∧Blk z_ gb2 75 #[Ii 0,Ii 0,Ii 0]∧Blk z_ gb8 75 #[Ii t5,Ii t6,Ii t7]∧Blk z_ gb10 28 #[Ii ((nt t4 t6.toNat (0,0,0,false)).1),Ii ((nt t4 t6.toNat (0,0,0,false)).2.1),Ii ((nt t4 t6.toNat (0,0,0,false)).2.2.1),.bool ((nt t4 t6.toNat (0,0,0,false)).2.2.2)]∧Blk z_ gb14 75 #[Ii t11,Ii t12,Ii t13]∧Own z_ w.heap.size 9 (ut3) (t3.map Value.string)∧True) [3] [(0,2),(1,1),(2,0),(3,0)] (by kernel_rfl) (by kernel_rfl) (by kernel_rfl) rfl ?_
      intro w87 hb_
      replace BKb1:=hid (BKb1.out.below hb_ BKb1.out.lt)
      replace BKb2:=hid (BKb2.out.below hb_ BKb2.out.lt)
      replace BKb8:=hid (BKb8.out.below hb_ BKb8.out.lt)
      replace BKb10:=hid (BKb10.out.below hb_ BKb10.out.lt)
      replace BKb14:=hid (BKb14.out.below hb_ BKb14.out.lt)
      replace SWt3:=hid (SWt3.out.below hb_)
      replace SWt4:=hid (SWt4.out.below hb_)
      replace HL:=hid (HL.out.trans (hb_.mono HL.out.size))
      clear hb_
      refine Qe (.agg #[Ii 0,Ii 0,Ii 0,.bool false]) rfl (fun z_=>Xs (.agg #[Ii 0,Ii 0,Ii 0,.bool false]) _ rfl (by intro ww_;kernel_rfl)) rfl rfl ?_
      intro t_ k_;simp only [sI,sZ,sS] at k_;subst k_
      refine QA (.agg #[Ii t11,Ii t12,Ii t13]) ⟨HL.out,BKb2.out,BKb8.out,BKb10.out,BKb14.out,SWt3.out,trivial⟩ rfl (fun z_ hS_=>QI Qs gb14 0 #[Ii t11,Ii t12,Ii t13] #[Ii t11,Ii t12,Ii t13] hS_.2.2.2.2.1 (by simp) rfl _ rfl rfl) rfl rfl ?_
      intro t_ k_;simp only [sI,sZ,sS] at k_;subst k_
      refine QV rfl (fun Q'_ hQ_=>?_)
      (with_reducible refine Qf (t:=28) (p:=4) rfl ?_)
      refine Qg Zp gb1 0 #[Ii 0,Ii 0,Ii 0,.bool false] #[Ii 0,Ii 0,Ii 0,.bool false] #[Ii 0,Ii 0,Ii 0,.bool false] BKb1.out rfl (by simp) (by intro v_ hv_;simp at hv_;rcases hv_ with rfl|rfl|rfl|rfl <;> first|rfl) rfl rfl _ _ rfl rfl rfl ?_
      intro w88 ho_ hB_
      replace BKb2:=hid (BKb2.out.off ho_ NBb2_b1.out)
      replace BKb8:=hid (BKb8.out.off ho_ NBb8_b1.out)
      replace BKb10:=hid (BKb10.out.off ho_ NBb10_b1.out)
      replace BKb14:=hid (BKb14.out.off ho_ NBb14_b1.out)
      clear SWt4
      replace SWt3:=hid (SWt3.out.off ho_ BKb1.out (by decide))
      replace HL:=hid (ho_.below HL.out GEb1.out)
      replace BKb1:=hid hB_
      clear ho_ hB_
      refine Qz ?_
      refine hQ_ _ _ (fun _=>⟨HL.out,BKb2.out,BKb8.out,BKb10.out,BKb14.out,SWt3.out,trivial⟩) ?_
      clear hQ_ Q'_
      simp only [Act.put]
      refine QV rfl (fun Q'_ hQ_=>?_)
      (with_reducible refine Qf (t:=75) (p:=5) rfl ?_)
      refine Qg Qs gb2 0 #[Ii 0,Ii 0,Ii 0] #[Ii t11,Ii t12,Ii t13] #[Ii t11,Ii t12,Ii t13] BKb2.out rfl (by simp) (by intro v_ hv_;simp at hv_;rcases hv_ with rfl|rfl|rfl <;> first|rfl) rfl rfl _ _ rfl rfl rfl ?_
      intro w89 ho_ hB_
      replace BKb1:=hid (BKb1.out.off ho_ NBb1_b2.out)
      replace BKb8:=hid (BKb8.out.off ho_ NBb8_b2.out)
      replace BKb10:=hid (BKb10.out.off ho_ NBb10_b2.out)
      replace BKb14:=hid (BKb14.out.off ho_ NBb14_b2.out)
      replace SWt3:=hid (SWt3.out.off ho_ BKb2.out (by decide))
      replace HL:=hid (ho_.below HL.out GEb2.out)
      replace BKb2:=hid hB_
      clear ho_ hB_
      refine Qz ?_
      refine hQ_ _ _ (fun h_=>absurd h_ (by decide)) ?_
      clear hQ_ Q'_
      simp only [Act.put]
      refine JH ?_
      clear WR64 WR32 WR8 WRU
      go_wp2_with fail
      (try simp only [Act.put,sI,sZ,sS])
      refine bodyPost_ret (v:=.tuple #[.agg #[Ii 0,Ii 0,Ii 0,.bool false],.agg #[Ii t11,Ii t12,Ii t13]]) (VC Zp Qs rfl _ gb1 gb2 #[Ii 0,Ii 0,Ii 0,.bool false] #[Ii t11,Ii t12,Ii t13] BKb1.out rfl rfl BKb2.out rfl rfl) rfl ?_
      exact ⟨by first|rfl|(simp;done)|(simp [*];done),HL.out⟩
    ·
     rw [if_neg c36] at H
     have c36b0:(((nt t4 t6.toNat (0,0,0,false)).1)==5)=false:=beq_eq_false_iff_ne.mpr c36
     have c36b1:(((nt t4 t6.toNat (0,0,0,false)).1) != 5)=true:=bne_iff_ne.mpr c36
     have hc36:=hid c36
     clear c36
     have H':=hid H
     clear H
     have k91:=True.intro
     go_wp2_with (first
      |(go_at_call 63;clear k91;refine (QR.c k a0 a1 (ut3) t3 t5 t6 t7 _ SWt3.out.sl A28.out).mono ?_;rintro e_ w92 ⟨rfl,hb_⟩;replace BKb1:=hid (BKb1.out.below hb_ BKb1.out.lt);replace BKb2:=hid (BKb2.out.below hb_ BKb2.out.lt);replace SWt3:=hid (SWt3.out.below hb_);replace SWt4:=hid (SWt4.out.below hb_);replace HL:=hid (HL.out.trans (hb_.mono HL.out.size));clear hb_)
      |((with_reducible refine Qa (N:=8) rfl ?_);obtain ⟨gb8,hgb8⟩:∃ g_,w92.heap.size=g_:=⟨_,rfl⟩;refine Zl Qs #[Ii t5,Ii t6,Ii t7] gb8 hgb8 rfl (by intro v_ hv_;simp at hv_;rcases hv_ with rfl|rfl|rfl <;> first|rfl) rfl rfl 8 rfl _ _ rfl (fun _=>rfl) (fun _=>rfl) rfl ?_;intro w93 hb_ hB_ hs_;have GEb8:Hid (w.heap.size≤gb8):=hid (by have:=HL.out.size;omega);have NBb1_b8:Hid (gb1≠gb8):=hid (by have:=BKb1.out.lt;omega);have NBb8_b1:Hid (gb8≠gb1):=hid (by have:=NBb1_b8.out;omega);replace BKb1:=hid (BKb1.out.below hb_ (by rw [← hgb8];exact BKb1.out.lt));have NBb2_b8:Hid (gb2≠gb8):=hid (by have:=BKb2.out.lt;omega);have NBb8_b2:Hid (gb8≠gb2):=hid (by have:=NBb2_b8.out;omega);replace BKb2:=hid (BKb2.out.below hb_ (by rw [← hgb8];exact BKb2.out.lt));replace SWt3:=hid (SWt3.out.below (by rw [hgb8];exact hb_));replace SWt4:=hid (SWt4.out.below (by rw [hgb8];exact hb_));replace HL:=hid (HL.out.trans (hb_.mono GEb8.out));have BKb8:=hid hB_;clear hb_ hB_ hs_ hgb8)
      |((with_reducible refine Qa (N:=22) rfl ?_);refine Qb (Pg gb8 2) (Qc 75 2 (Pg gb8 0) (Pg gb8 2) (Js gb8) _ rfl rfl) rfl ?_)
      |((with_reducible refine Qa (N:=23) rfl ?_);refine Qb (Ii t7) (Qd Zk gb8 (2) (Ii t7) (#[Ii t5,Ii t6,Ii t7]) BKb8.out rfl _ rfl rfl) rfl ?_)
      |((with_reducible refine Qa (N:=28) rfl ?_);refine Qb (Pg gb8 1) (Qc 75 1 (Pg gb8 0) (Pg gb8 1) (Ka gb8) _ rfl rfl) rfl ?_)
      |((with_reducible refine Qa (N:=29) rfl ?_);refine Qb (Ii t6) (Qd sT3 gb8 (1) (Ii t6) (#[Ii t5,Ii t6,Ii t7]) BKb8.out rfl _ rfl rfl) rfl ?_)
      |((with_reducible refine Qa (N:=30) rfl ?_);obtain ⟨ad9,c94,hv95,HCad9_⟩:=SlN.get (l:=t4) (f:=VG) xL SWt4.out.sl (0,0,0,false) (i:=t6) hc34.out hc35.out;have HCad9:=hid HCad9_;clear HCad9_;refine Qb (.pointer (some (ad9.add (t6.toNat*4)))) (vS _ _ t6 _ _ hv95 hc34.out hc35.out Qfa Zp.size _ _ rfl rfl rfl) rfl ?_;clear hv95)
      |((with_reducible refine Qa (N:=31) rfl ?_);refine Qb (.agg #[Ii ((nt t4 t6.toNat (0,0,0,false)).1),Ii ((nt t4 t6.toNat (0,0,0,false)).2.1),Ii ((nt t4 t6.toNat (0,0,0,false)).2.2.1),.bool ((nt t4 t6.toNat (0,0,0,false)).2.2.2)]) (Qcm Zp _ (VG (nt t4 t6.toNat (0,0,0,false))) rfl HCad9.out _ rfl rfl) rfl ?_)
      |((with_reducible refine Qa (N:=9) rfl ?_);obtain ⟨gb10,hgb10⟩:∃ g_,w93.heap.size=g_:=⟨_,rfl⟩;refine Zl Zp #[Ii ((nt t4 t6.toNat (0,0,0,false)).1),Ii ((nt t4 t6.toNat (0,0,0,false)).2.1),Ii ((nt t4 t6.toNat (0,0,0,false)).2.2.1),.bool ((nt t4 t6.toNat (0,0,0,false)).2.2.2)] gb10 hgb10 rfl (by intro v_ hv_;simp at hv_;rcases hv_ with rfl|rfl|rfl|rfl <;> first|rfl) rfl rfl 9 rfl _ _ rfl (fun _=>rfl) (fun _=>rfl) rfl ?_;intro w96 hb_ hB_ hs_;have GEb10:Hid (w.heap.size≤gb10):=hid (by have:=HL.out.size;omega);have NBb1_b10:Hid (gb1≠gb10):=hid (by have:=BKb1.out.lt;omega);have NBb10_b1:Hid (gb10≠gb1):=hid (by have:=NBb1_b10.out;omega);replace BKb1:=hid (BKb1.out.below hb_ (by rw [← hgb10];exact BKb1.out.lt));have NBb2_b10:Hid (gb2≠gb10):=hid (by have:=BKb2.out.lt;omega);have NBb10_b2:Hid (gb10≠gb2):=hid (by have:=NBb2_b10.out;omega);replace BKb2:=hid (BKb2.out.below hb_ (by rw [← hgb10];exact BKb2.out.lt));have NBb8_b10:Hid (gb8≠gb10):=hid (by have:=BKb8.out.lt;omega);have NBb10_b8:Hid (gb10≠gb8):=hid (by have:=NBb8_b10.out;omega);replace BKb8:=hid (BKb8.out.below hb_ (by rw [← hgb10];exact BKb8.out.lt));replace SWt3:=hid (SWt3.out.below (by rw [hgb10];exact hb_));replace SWt4:=hid (SWt4.out.below (by rw [hgb10];exact hb_));replace HL:=hid (HL.out.trans (hb_.mono GEb10.out));have BKb10:=hid hB_;clear hb_ hB_ hs_ hgb10)
      |((with_reducible refine Qa (N:=32) rfl ?_);refine Qb (Pg gb10 0) (Qc 28 0 (Pg gb10 0) (Pg gb10 0) (Qv gb10) _ rfl rfl) rfl ?_)
      |((with_reducible refine Qa (N:=33) rfl ?_);refine Qb (Ii ((nt t4 t6.toNat (0,0,0,false)).1)) (Qd sT3 gb10 (0) (Ii ((nt t4 t6.toNat (0,0,0,false)).1)) (#[Ii ((nt t4 t6.toNat (0,0,0,false)).1),Ii ((nt t4 t6.toNat (0,0,0,false)).2.1),Ii ((nt t4 t6.toNat (0,0,0,false)).2.2.1),.bool ((nt t4 t6.toNat (0,0,0,false)).2.2.2)]) BKb10.out rfl _ rfl rfl) rfl ?_)
      |((with_reducible refine Qa (N:=36) rfl ?_);refine Qb (Pg gb8 0) (Qc 75 0 (Pg gb8 0) (Pg gb8 0) (ZC gb8) _ rfl rfl) rfl ?_)
      |((with_reducible refine Qa (N:=37) rfl ?_);refine Qb (Ii t5) (Qd sT3 gb8 (0) (Ii t5) (#[Ii t5,Ii t6,Ii t7]) BKb8.out rfl _ rfl rfl) rfl ?_))
     (try simp only [Act.put,sI,sZ,sS])
     have H:=H'.out
     clear H'
     replace H:=Ia H
     obtain ⟨⟨t23,t24,t25⟩,A90_,H⟩:=H
     dsimp only at H
     have A90:=hid A90_
     clear A90_
     by_cases c97:t25=0
     ·
      rw [if_pos c97] at H
      have c97b0:(t25==0)=true:=beq_iff_eq.mpr c97
      have c97b1:(t25 != 0)=false:=bne_eq_false_iff_eq.mpr c97
      have hc97:=hid c97
      clear c97
      simp only [Option.some.injEq,Prod.mk.injEq] at H
      obtain ⟨rfl,rfl,rfl,rfl,rfl,rfl,rfl⟩:=H
      have k98:=True.intro
      go_wp2_with (first
       |(go_at_call 65;clear k98;refine (Qw.c k a0 t5 1 64 t23 t24 t25 _ A90.out).mono ?_;rintro e_ w99 ⟨rfl,hb_⟩;replace BKb1:=hid (BKb1.out.below hb_ BKb1.out.lt);replace BKb2:=hid (BKb2.out.below hb_ BKb2.out.lt);replace BKb8:=hid (BKb8.out.below hb_ BKb8.out.lt);replace BKb10:=hid (BKb10.out.below hb_ BKb10.out.lt);replace SWt3:=hid (SWt3.out.below hb_);replace SWt4:=hid (SWt4.out.below hb_);replace HL:=hid (HL.out.trans (hb_.mono HL.out.size));clear hb_)
       |((with_reducible refine Qa (N:=11) rfl ?_);obtain ⟨gb26,hgb26⟩:∃ g_,w99.heap.size=g_:=⟨_,rfl⟩;refine Zl Qs #[Ii t23,Ii t24,Ii t25] gb26 hgb26 rfl (by intro v_ hv_;simp at hv_;rcases hv_ with rfl|rfl|rfl <;> first|rfl) rfl rfl 11 rfl _ _ rfl (fun _=>rfl) (fun _=>rfl) rfl ?_;intro w100 hb_ hB_ hs_;have GEb26:Hid (w.heap.size≤gb26):=hid (by have:=HL.out.size;omega);have NBb1_b26:Hid (gb1≠gb26):=hid (by have:=BKb1.out.lt;omega);have NBb26_b1:Hid (gb26≠gb1):=hid (by have:=NBb1_b26.out;omega);replace BKb1:=hid (BKb1.out.below hb_ (by rw [← hgb26];exact BKb1.out.lt));have NBb2_b26:Hid (gb2≠gb26):=hid (by have:=BKb2.out.lt;omega);have NBb26_b2:Hid (gb26≠gb2):=hid (by have:=NBb2_b26.out;omega);replace BKb2:=hid (BKb2.out.below hb_ (by rw [← hgb26];exact BKb2.out.lt));have NBb8_b26:Hid (gb8≠gb26):=hid (by have:=BKb8.out.lt;omega);have NBb26_b8:Hid (gb26≠gb8):=hid (by have:=NBb8_b26.out;omega);replace BKb8:=hid (BKb8.out.below hb_ (by rw [← hgb26];exact BKb8.out.lt));have NBb10_b26:Hid (gb10≠gb26):=hid (by have:=BKb10.out.lt;omega);have NBb26_b10:Hid (gb26≠gb10):=hid (by have:=NBb10_b26.out;omega);replace BKb10:=hid (BKb10.out.below hb_ (by rw [← hgb26];exact BKb10.out.lt));replace SWt3:=hid (SWt3.out.below (by rw [hgb26];exact hb_));replace SWt4:=hid (SWt4.out.below (by rw [hgb26];exact hb_));replace HL:=hid (HL.out.trans (hb_.mono GEb26.out));have BKb26:=hid hB_;clear hb_ hB_ hs_ hgb26)
       |((with_reducible refine Qa (N:=40) rfl ?_);refine Qb (Pg gb26 2) (Qc 75 2 (Pg gb26 0) (Pg gb26 2) (Js gb26) _ rfl rfl) rfl ?_)
       |((with_reducible refine Qa (N:=41) rfl ?_);refine Qb (Ii t25) (Qd Zk gb26 (2) (Ii t25) (#[Ii t23,Ii t24,Ii t25]) BKb26.out rfl _ rfl rfl) rfl ?_)
       |((with_reducible refine Qa (N:=45) rfl ?_);refine Qb (Pg gb26 1) (Qc 75 1 (Pg gb26 0) (Pg gb26 1) (Ka gb26) _ rfl rfl) rfl ?_)
       |((with_reducible refine Qa (N:=46) rfl ?_);refine Qb (Ii t24) (Qd sT3 gb26 (1) (Ii t24) (#[Ii t23,Ii t24,Ii t25]) BKb26.out rfl _ rfl rfl) rfl ?_)
       |((with_reducible refine Qa (N:=47) rfl ?_);refine Qb (Pg gb10 2) (Qc 28 2 (Pg gb10 0) (Pg gb10 2) (Jd gb10) _ rfl rfl) rfl ?_)
       |((with_reducible refine Qf (t:=3) (p:=47) rfl ?_);refine QH sT3 gb10 (2) (Ii t24) #[Ii ((nt t4 t6.toNat (0,0,0,false)).1),Ii ((nt t4 t6.toNat (0,0,0,false)).2.1),Ii ((nt t4 t6.toNat (0,0,0,false)).2.2.1),.bool ((nt t4 t6.toNat (0,0,0,false)).2.2.2)] #[Ii ((nt t4 t6.toNat (0,0,0,false)).1),Ii ((nt t4 t6.toNat (0,0,0,false)).2.1),Ii t24,.bool ((nt t4 t6.toNat (0,0,0,false)).2.2.2)] BKb10.out (by simp) rfl rfl rfl rfl _ _ rfl rfl rfl ?_;intro w101 ho_ hB_;replace BKb1:=hid (BKb1.out.off ho_ NBb1_b10.out);replace BKb2:=hid (BKb2.out.off ho_ NBb2_b10.out);replace BKb8:=hid (BKb8.out.off ho_ NBb8_b10.out);replace BKb26:=hid (BKb26.out.off ho_ NBb26_b10.out);clear SWt4;replace SWt3:=hid (SWt3.out.off ho_ BKb10.out (by decide));replace HL:=hid (ho_.below HL.out GEb10.out);replace BKb10:=hid hB_;clear ho_ hB_)
       |((with_reducible refine Qa (N:=48) rfl ?_);refine Qb (Pg gb10 0) (Qc 28 0 (Pg gb10 0) (Pg gb10 0) (Qv gb10) _ rfl rfl) rfl ?_)
       |((with_reducible refine Qa (N:=49) rfl ?_);refine Qb (Ii ((nt t4 t6.toNat (0,0,0,false)).1)) (Qd sT3 gb10 (0) (Ii ((nt t4 t6.toNat (0,0,0,false)).1)) (#[Ii ((nt t4 t6.toNat (0,0,0,false)).1),Ii ((nt t4 t6.toNat (0,0,0,false)).2.1),Ii t24,.bool ((nt t4 t6.toNat (0,0,0,false)).2.2.2)]) BKb10.out rfl _ rfl rfl) rfl ?_))
      (try simp only [Act.put,sI,sZ,sS])
      have WR64:=Zs
      have WR32:=ZA
      have WR8:=Ko
      have WRU:=ZY
      refine QL (fun z_=>Below w.heap.size w z_∧Blk z_ gb2 75 #[Ii 0,Ii 0,Ii 0]∧Blk z_ gb8 75 #[Ii t5,Ii t6,Ii t7]∧Blk z_ gb10 28 #[Ii ((nt t4 t6.toNat (0,0,0,false)).1),Ii ((nt t4 t6.toNat (0,0,0,false)).2.1),Ii t24,.bool ((nt t4 t6.toNat (0,0,0,false)).2.2.2)]∧Blk z_ gb26 75 #[Ii t23,Ii t24,Ii t25]∧Own z_ w.heap.size 9 (ut3) (t3.map Value.string)∧True) [5] [(0,1),(1,2),(2,1),(3,2),(4,0),(5,0)] (by kernel_rfl) (by kernel_rfl) (by kernel_rfl) rfl ?_
      intro w102 hb_
      replace BKb1:=hid (BKb1.out.below hb_ BKb1.out.lt)
      replace BKb2:=hid (BKb2.out.below hb_ BKb2.out.lt)
      replace BKb8:=hid (BKb8.out.below hb_ BKb8.out.lt)
      replace BKb10:=hid (BKb10.out.below hb_ BKb10.out.lt)
      replace BKb26:=hid (BKb26.out.below hb_ BKb26.out.lt)
      replace SWt3:=hid (SWt3.out.below hb_)
      replace HL:=hid (HL.out.trans (hb_.mono HL.out.size))
      clear hb_
      refine QA (.agg #[Ii ((nt t4 t6.toNat (0,0,0,false)).1),Ii ((nt t4 t6.toNat (0,0,0,false)).2.1),Ii t24,.bool ((nt t4 t6.toNat (0,0,0,false)).2.2.2)]) ⟨HL.out,BKb2.out,BKb8.out,BKb10.out,BKb26.out,SWt3.out,trivial⟩ rfl (fun z_ hS_=>QI Zp gb10 0 #[Ii ((nt t4 t6.toNat (0,0,0,false)).1),Ii ((nt t4 t6.toNat (0,0,0,false)).2.1),Ii t24,.bool ((nt t4 t6.toNat (0,0,0,false)).2.2.2)] #[Ii ((nt t4 t6.toNat (0,0,0,false)).1),Ii ((nt t4 t6.toNat (0,0,0,false)).2.1),Ii t24,.bool ((nt t4 t6.toNat (0,0,0,false)).2.2.2)] hS_.2.2.2.1 (by simp) rfl _ rfl rfl) rfl rfl ?_
      intro t_ k_;simp only [sI,sZ,sS] at k_;subst k_
      refine Qe (Pg gb26 0) rfl (fun z_=>Qc 75 0 (Pg gb26 0) (Pg gb26 0) (ZC gb26) _ rfl rfl) rfl rfl ?_
      intro t_ k_;simp only [sI,sZ,sS] at k_;subst k_
      refine QA (Ii t23) ⟨HL.out,BKb2.out,BKb8.out,BKb10.out,BKb26.out,SWt3.out,trivial⟩ rfl (fun z_ hS_=>Qd sT3 gb26 (0) (Ii t23) (#[Ii t23,Ii t24,Ii t25]) hS_.2.2.2.2.1 rfl _ rfl rfl) rfl rfl ?_
      intro t_ k_;simp only [sI,sZ,sS] at k_;subst k_
      refine Qe (.agg #[Ii t23,Ii 0,Ii 0]) rfl (fun z_=>Xs (.agg #[Ii t23,Ii 0,Ii 0]) _ rfl (by intro ww_;simp only [List.map_toArray,List.map_cons,List.map_nil];kernel_rfl)) rfl rfl ?_
      intro t_ k_;simp only [sI,sZ,sS] at k_;subst k_
      refine QV rfl (fun Q'_ hQ_=>?_)
      (with_reducible refine Qf (t:=28) (p:=4) rfl ?_)
      refine Qg Zp gb1 0 #[Ii 0,Ii 0,Ii 0,.bool false] #[Ii ((nt t4 t6.toNat (0,0,0,false)).1),Ii ((nt t4 t6.toNat (0,0,0,false)).2.1),Ii t24,.bool ((nt t4 t6.toNat (0,0,0,false)).2.2.2)] #[Ii ((nt t4 t6.toNat (0,0,0,false)).1),Ii ((nt t4 t6.toNat (0,0,0,false)).2.1),Ii t24,.bool ((nt t4 t6.toNat (0,0,0,false)).2.2.2)] BKb1.out rfl (by simp) (by intro v_ hv_;simp at hv_;rcases hv_ with rfl|rfl|rfl|rfl <;> first|rfl) rfl rfl _ _ rfl rfl rfl ?_
      intro w103 ho_ hB_
      replace BKb2:=hid (BKb2.out.off ho_ NBb2_b1.out)
      replace BKb8:=hid (BKb8.out.off ho_ NBb8_b1.out)
      replace BKb10:=hid (BKb10.out.off ho_ NBb10_b1.out)
      replace BKb26:=hid (BKb26.out.off ho_ NBb26_b1.out)
      replace SWt3:=hid (SWt3.out.off ho_ BKb1.out (by decide))
      replace HL:=hid (ho_.below HL.out GEb1.out)
      replace BKb1:=hid hB_
      clear ho_ hB_
      refine Qz ?_
      refine hQ_ _ _ (fun _=>⟨HL.out,BKb2.out,BKb8.out,BKb10.out,BKb26.out,SWt3.out,trivial⟩) ?_
      clear hQ_ Q'_
      simp only [Act.put]
      refine QV rfl (fun Q'_ hQ_=>?_)
      (with_reducible refine Qf (t:=75) (p:=5) rfl ?_)
      refine Qg Qs gb2 0 #[Ii 0,Ii 0,Ii 0] #[Ii t23,Ii 0,Ii 0] #[Ii t23,Ii 0,Ii 0] BKb2.out rfl (by simp) (by intro v_ hv_;simp at hv_;rcases hv_ with rfl|rfl|rfl <;> first|rfl) rfl rfl _ _ rfl rfl rfl ?_
      intro w104 ho_ hB_
      replace BKb1:=hid (BKb1.out.off ho_ NBb1_b2.out)
      replace BKb8:=hid (BKb8.out.off ho_ NBb8_b2.out)
      replace BKb10:=hid (BKb10.out.off ho_ NBb10_b2.out)
      replace BKb26:=hid (BKb26.out.off ho_ NBb26_b2.out)
      replace SWt3:=hid (SWt3.out.off ho_ BKb2.out (by decide))
      replace HL:=hid (ho_.below HL.out GEb2.out)
      replace BKb2:=hid hB_
      clear ho_ hB_
      refine Qz ?_
      refine hQ_ _ _ (fun h_=>absurd h_ (by decide)) ?_
      clear hQ_ Q'_
      simp only [Act.put]
      refine JH ?_
      clear WR64 WR32 WR8 WRU
      go_wp2_with fail
      (try simp only [Act.put,sI,sZ,sS])
      refine bodyPost_ret (v:=.tuple #[.agg #[Ii ((nt t4 t6.toNat (0,0,0,false)).1),Ii ((nt t4 t6.toNat (0,0,0,false)).2.1),Ii t24,.bool ((nt t4 t6.toNat (0,0,0,false)).2.2.2)],.agg #[Ii t23,Ii 0,Ii 0]]) (VC Zp Qs rfl _ gb1 gb2 #[Ii ((nt t4 t6.toNat (0,0,0,false)).1),Ii ((nt t4 t6.toNat (0,0,0,false)).2.1),Ii t24,.bool ((nt t4 t6.toNat (0,0,0,false)).2.2.2)] #[Ii t23,Ii 0,Ii 0] BKb1.out rfl rfl BKb2.out rfl rfl) rfl ?_
      exact ⟨by first|rfl|(simp;done)|(simp [*];done),HL.out⟩
     ·
      rw [if_neg c97] at H
      have c97b0:(t25==0)=false:=beq_eq_false_iff_ne.mpr c97
      have c97b1:(t25 != 0)=true:=bne_iff_ne.mpr c97
      have hc97:=hid c97
      clear c97
      simp only [Option.some.injEq,Prod.mk.injEq] at H
      obtain ⟨rfl,rfl,rfl,rfl,rfl,rfl,rfl⟩:=H
      have k105:=True.intro
      go_wp2_with (first
       |(go_at_call 65;clear k105;refine (Qw.c k a0 t5 1 64 t23 t24 t25 _ A90.out).mono ?_;rintro e_ w106 ⟨rfl,hb_⟩;replace BKb1:=hid (BKb1.out.below hb_ BKb1.out.lt);replace BKb2:=hid (BKb2.out.below hb_ BKb2.out.lt);replace BKb8:=hid (BKb8.out.below hb_ BKb8.out.lt);replace BKb10:=hid (BKb10.out.below hb_ BKb10.out.lt);replace SWt3:=hid (SWt3.out.below hb_);replace SWt4:=hid (SWt4.out.below hb_);replace HL:=hid (HL.out.trans (hb_.mono HL.out.size));clear hb_)
       |((with_reducible refine Qa (N:=11) rfl ?_);obtain ⟨gb26,hgb26⟩:∃ g_,w106.heap.size=g_:=⟨_,rfl⟩;refine Zl Qs #[Ii t23,Ii t24,Ii t25] gb26 hgb26 rfl (by intro v_ hv_;simp at hv_;rcases hv_ with rfl|rfl|rfl <;> first|rfl) rfl rfl 11 rfl _ _ rfl (fun _=>rfl) (fun _=>rfl) rfl ?_;intro w107 hb_ hB_ hs_;have GEb26:Hid (w.heap.size≤gb26):=hid (by have:=HL.out.size;omega);have NBb1_b26:Hid (gb1≠gb26):=hid (by have:=BKb1.out.lt;omega);have NBb26_b1:Hid (gb26≠gb1):=hid (by have:=NBb1_b26.out;omega);replace BKb1:=hid (BKb1.out.below hb_ (by rw [← hgb26];exact BKb1.out.lt));have NBb2_b26:Hid (gb2≠gb26):=hid (by have:=BKb2.out.lt;omega);have NBb26_b2:Hid (gb26≠gb2):=hid (by have:=NBb2_b26.out;omega);replace BKb2:=hid (BKb2.out.below hb_ (by rw [← hgb26];exact BKb2.out.lt));have NBb8_b26:Hid (gb8≠gb26):=hid (by have:=BKb8.out.lt;omega);have NBb26_b8:Hid (gb26≠gb8):=hid (by have:=NBb8_b26.out;omega);replace BKb8:=hid (BKb8.out.below hb_ (by rw [← hgb26];exact BKb8.out.lt));have NBb10_b26:Hid (gb10≠gb26):=hid (by have:=BKb10.out.lt;omega);have NBb26_b10:Hid (gb26≠gb10):=hid (by have:=NBb10_b26.out;omega);replace BKb10:=hid (BKb10.out.below hb_ (by rw [← hgb26];exact BKb10.out.lt));replace SWt3:=hid (SWt3.out.below (by rw [hgb26];exact hb_));replace SWt4:=hid (SWt4.out.below (by rw [hgb26];exact hb_));replace HL:=hid (HL.out.trans (hb_.mono GEb26.out));have BKb26:=hid hB_;clear hb_ hB_ hs_ hgb26)
       |((with_reducible refine Qa (N:=40) rfl ?_);refine Qb (Pg gb26 2) (Qc 75 2 (Pg gb26 0) (Pg gb26 2) (Js gb26) _ rfl rfl) rfl ?_)
       |((with_reducible refine Qa (N:=41) rfl ?_);refine Qb (Ii t25) (Qd Zk gb26 (2) (Ii t25) (#[Ii t23,Ii t24,Ii t25]) BKb26.out rfl _ rfl rfl) rfl ?_))
      (try simp only [Act.put,sI,sZ,sS])
      have WR64:=Zs
      have WR32:=ZA
      have WR8:=Ko
      have WRU:=ZY
      refine QL (fun z_=>Below w.heap.size w z_∧Blk z_ gb2 75 #[Ii 0,Ii 0,Ii 0]∧Blk z_ gb8 75 #[Ii t5,Ii t6,Ii t7]∧Blk z_ gb10 28 #[Ii ((nt t4 t6.toNat (0,0,0,false)).1),Ii ((nt t4 t6.toNat (0,0,0,false)).2.1),Ii ((nt t4 t6.toNat (0,0,0,false)).2.2.1),.bool ((nt t4 t6.toNat (0,0,0,false)).2.2.2)]∧Blk z_ gb26 75 #[Ii t23,Ii t24,Ii t25]∧Own z_ w.heap.size 9 (ut3) (t3.map Value.string)∧True) [3] [(0,2),(1,1),(2,0),(3,0)] (by kernel_rfl) (by kernel_rfl) (by kernel_rfl) rfl ?_
      intro w108 hb_
      replace BKb1:=hid (BKb1.out.below hb_ BKb1.out.lt)
      replace BKb2:=hid (BKb2.out.below hb_ BKb2.out.lt)
      replace BKb8:=hid (BKb8.out.below hb_ BKb8.out.lt)
      replace BKb10:=hid (BKb10.out.below hb_ BKb10.out.lt)
      replace BKb26:=hid (BKb26.out.below hb_ BKb26.out.lt)
      replace SWt3:=hid (SWt3.out.below hb_)
      replace SWt4:=hid (SWt4.out.below hb_)
      replace HL:=hid (HL.out.trans (hb_.mono HL.out.size))
      clear hb_
      refine Qe (.agg #[Ii 0,Ii 0,Ii 0,.bool false]) rfl (fun z_=>Xs (.agg #[Ii 0,Ii 0,Ii 0,.bool false]) _ rfl (by intro ww_;kernel_rfl)) rfl rfl ?_
      intro t_ k_;simp only [sI,sZ,sS] at k_;subst k_
      refine QA (.agg #[Ii t23,Ii t24,Ii t25]) ⟨HL.out,BKb2.out,BKb8.out,BKb10.out,BKb26.out,SWt3.out,trivial⟩ rfl (fun z_ hS_=>QI Qs gb26 0 #[Ii t23,Ii t24,Ii t25] #[Ii t23,Ii t24,Ii t25] hS_.2.2.2.2.1 (by simp) rfl _ rfl rfl) rfl rfl ?_
      intro t_ k_;simp only [sI,sZ,sS] at k_;subst k_
      refine QV rfl (fun Q'_ hQ_=>?_)
      (with_reducible refine Qf (t:=28) (p:=4) rfl ?_)
      refine Qg Zp gb1 0 #[Ii 0,Ii 0,Ii 0,.bool false] #[Ii 0,Ii 0,Ii 0,.bool false] #[Ii 0,Ii 0,Ii 0,.bool false] BKb1.out rfl (by simp) (by intro v_ hv_;simp at hv_;rcases hv_ with rfl|rfl|rfl|rfl <;> first|rfl) rfl rfl _ _ rfl rfl rfl ?_
      intro w109 ho_ hB_
      replace BKb2:=hid (BKb2.out.off ho_ NBb2_b1.out)
      replace BKb8:=hid (BKb8.out.off ho_ NBb8_b1.out)
      replace BKb10:=hid (BKb10.out.off ho_ NBb10_b1.out)
      replace BKb26:=hid (BKb26.out.off ho_ NBb26_b1.out)
      clear SWt4
      replace SWt3:=hid (SWt3.out.off ho_ BKb1.out (by decide))
      replace HL:=hid (ho_.below HL.out GEb1.out)
      replace BKb1:=hid hB_
      clear ho_ hB_
      refine Qz ?_
      refine hQ_ _ _ (fun _=>⟨HL.out,BKb2.out,BKb8.out,BKb10.out,BKb26.out,SWt3.out,trivial⟩) ?_
      clear hQ_ Q'_
      simp only [Act.put]
      refine QV rfl (fun Q'_ hQ_=>?_)
      (with_reducible refine Qf (t:=75) (p:=5) rfl ?_)
      refine Qg Qs gb2 0 #[Ii 0,Ii 0,Ii 0] #[Ii t23,Ii t24,Ii t25] #[Ii t23,Ii t24,Ii t25] BKb2.out rfl (by simp) (by intro v_ hv_;simp at hv_;rcases hv_ with rfl|rfl|rfl <;> first|rfl) rfl rfl _ _ rfl rfl rfl ?_
      intro w110 ho_ hB_
      replace BKb1:=hid (BKb1.out.off ho_ NBb1_b2.out)
      replace BKb8:=hid (BKb8.out.off ho_ NBb8_b2.out)
      replace BKb10:=hid (BKb10.out.off ho_ NBb10_b2.out)
      replace BKb26:=hid (BKb26.out.off ho_ NBb26_b2.out)
      replace SWt3:=hid (SWt3.out.off ho_ BKb2.out (by decide))
      replace HL:=hid (ho_.below HL.out GEb2.out)
      replace BKb2:=hid hB_
      clear ho_ hB_
      refine Qz ?_
      refine hQ_ _ _ (fun h_=>absurd h_ (by decide)) ?_
      clear hQ_ Q'_
      simp only [Act.put]
      refine JH ?_
      clear WR64 WR32 WR8 WRU
      go_wp2_with fail
      (try simp only [Act.put,sI,sZ,sS])
      refine bodyPost_ret (v:=.tuple #[.agg #[Ii 0,Ii 0,Ii 0,.bool false],.agg #[Ii t23,Ii t24,Ii t25]]) (VC Zp Qs rfl _ gb1 gb2 #[Ii 0,Ii 0,Ii 0,.bool false] #[Ii t23,Ii t24,Ii t25] BKb1.out rfl rfl BKb2.out rfl rfl) rfl ?_
      exact ⟨by first|rfl|(simp;done)|(simp [*];done),HL.out⟩
   ·
    rw [if_neg c35] at H
    exact absurd H (by simp)
  ·
   rw [if_neg c34] at H
   exact absurd H (by simp)
 ·
  rw [if_neg c33] at H
  have c33b0:(t7==0)=false:=beq_eq_false_iff_ne.mpr c33
  have c33b1:(t7 != 0)=true:=bne_iff_ne.mpr c33
  have hc33:=hid c33
  clear c33
  simp only [Option.some.injEq,Prod.mk.injEq] at H
  obtain ⟨rfl,rfl,rfl,rfl,rfl,rfl,rfl⟩:=H
  have k111:=True.intro
  go_wp2_with (first
   |(go_at_call 63;clear k111;refine (QR.c k a0 a1 (ut3) t3 t5 t6 t7 _ SWt3.out.sl A28.out).mono ?_;rintro e_ w112 ⟨rfl,hb_⟩;replace BKb1:=hid (BKb1.out.below hb_ BKb1.out.lt);replace BKb2:=hid (BKb2.out.below hb_ BKb2.out.lt);replace SWt3:=hid (SWt3.out.below hb_);replace SWt4:=hid (SWt4.out.below hb_);replace HL:=hid (HL.out.trans (hb_.mono HL.out.size));clear hb_)
   |((with_reducible refine Qa (N:=8) rfl ?_);obtain ⟨gb8,hgb8⟩:∃ g_,w112.heap.size=g_:=⟨_,rfl⟩;refine Zl Qs #[Ii t5,Ii t6,Ii t7] gb8 hgb8 rfl (by intro v_ hv_;simp at hv_;rcases hv_ with rfl|rfl|rfl <;> first|rfl) rfl rfl 8 rfl _ _ rfl (fun _=>rfl) (fun _=>rfl) rfl ?_;intro w113 hb_ hB_ hs_;have GEb8:Hid (w.heap.size≤gb8):=hid (by have:=HL.out.size;omega);have NBb1_b8:Hid (gb1≠gb8):=hid (by have:=BKb1.out.lt;omega);have NBb8_b1:Hid (gb8≠gb1):=hid (by have:=NBb1_b8.out;omega);replace BKb1:=hid (BKb1.out.below hb_ (by rw [← hgb8];exact BKb1.out.lt));have NBb2_b8:Hid (gb2≠gb8):=hid (by have:=BKb2.out.lt;omega);have NBb8_b2:Hid (gb8≠gb2):=hid (by have:=NBb2_b8.out;omega);replace BKb2:=hid (BKb2.out.below hb_ (by rw [← hgb8];exact BKb2.out.lt));replace SWt3:=hid (SWt3.out.below (by rw [hgb8];exact hb_));replace SWt4:=hid (SWt4.out.below (by rw [hgb8];exact hb_));replace HL:=hid (HL.out.trans (hb_.mono GEb8.out));have BKb8:=hid hB_;clear hb_ hB_ hs_ hgb8)
   |((with_reducible refine Qa (N:=22) rfl ?_);refine Qb (Pg gb8 2) (Qc 75 2 (Pg gb8 0) (Pg gb8 2) (Js gb8) _ rfl rfl) rfl ?_)
   |((with_reducible refine Qa (N:=23) rfl ?_);refine Qb (Ii t7) (Qd Zk gb8 (2) (Ii t7) (#[Ii t5,Ii t6,Ii t7]) BKb8.out rfl _ rfl rfl) rfl ?_))
  (try simp only [Act.put,sI,sZ,sS])
  have WR64:=Zs
  have WR32:=ZA
  have WR8:=Ko
  have WRU:=ZY
  refine QL (fun z_=>Below w.heap.size w z_∧Blk z_ gb2 75 #[Ii 0,Ii 0,Ii 0]∧Blk z_ gb8 75 #[Ii t5,Ii t6,Ii t7]∧Own z_ w.heap.size 9 (ut3) (t3.map Value.string)∧True) [3] [(0,2),(1,1),(2,0),(3,0)] (by kernel_rfl) (by kernel_rfl) (by kernel_rfl) rfl ?_
  intro w114 hb_
  replace BKb1:=hid (BKb1.out.below hb_ BKb1.out.lt)
  replace BKb2:=hid (BKb2.out.below hb_ BKb2.out.lt)
  replace BKb8:=hid (BKb8.out.below hb_ BKb8.out.lt)
  replace SWt3:=hid (SWt3.out.below hb_)
  replace SWt4:=hid (SWt4.out.below hb_)
  replace HL:=hid (HL.out.trans (hb_.mono HL.out.size))
  clear hb_
  refine Qe (.agg #[Ii 0,Ii 0,Ii 0,.bool false]) rfl (fun z_=>Xs (.agg #[Ii 0,Ii 0,Ii 0,.bool false]) _ rfl (by intro ww_;kernel_rfl)) rfl rfl ?_
  intro t_ k_;simp only [sI,sZ,sS] at k_;subst k_
  refine QA (.agg #[Ii t5,Ii t6,Ii t7]) ⟨HL.out,BKb2.out,BKb8.out,SWt3.out,trivial⟩ rfl (fun z_ hS_=>QI Qs gb8 0 #[Ii t5,Ii t6,Ii t7] #[Ii t5,Ii t6,Ii t7] hS_.2.2.1 (by simp) rfl _ rfl rfl) rfl rfl ?_
  intro t_ k_;simp only [sI,sZ,sS] at k_;subst k_
  refine QV rfl (fun Q'_ hQ_=>?_)
  (with_reducible refine Qf (t:=28) (p:=4) rfl ?_)
  refine Qg Zp gb1 0 #[Ii 0,Ii 0,Ii 0,.bool false] #[Ii 0,Ii 0,Ii 0,.bool false] #[Ii 0,Ii 0,Ii 0,.bool false] BKb1.out rfl (by simp) (by intro v_ hv_;simp at hv_;rcases hv_ with rfl|rfl|rfl|rfl <;> first|rfl) rfl rfl _ _ rfl rfl rfl ?_
  intro w115 ho_ hB_
  replace BKb2:=hid (BKb2.out.off ho_ NBb2_b1.out)
  replace BKb8:=hid (BKb8.out.off ho_ NBb8_b1.out)
  clear SWt4
  replace SWt3:=hid (SWt3.out.off ho_ BKb1.out (by decide))
  replace HL:=hid (ho_.below HL.out GEb1.out)
  replace BKb1:=hid hB_
  clear ho_ hB_
  refine Qz ?_
  refine hQ_ _ _ (fun _=>⟨HL.out,BKb2.out,BKb8.out,SWt3.out,trivial⟩) ?_
  clear hQ_ Q'_
  simp only [Act.put]
  refine QV rfl (fun Q'_ hQ_=>?_)
  (with_reducible refine Qf (t:=75) (p:=5) rfl ?_)
  refine Qg Qs gb2 0 #[Ii 0,Ii 0,Ii 0] #[Ii t5,Ii t6,Ii t7] #[Ii t5,Ii t6,Ii t7] BKb2.out rfl (by simp) (by intro v_ hv_;simp at hv_;rcases hv_ with rfl|rfl|rfl <;> first|rfl) rfl rfl _ _ rfl rfl rfl ?_
  intro w116 ho_ hB_
  replace BKb1:=hid (BKb1.out.off ho_ NBb1_b2.out)
  replace BKb8:=hid (BKb8.out.off ho_ NBb8_b2.out)
  replace SWt3:=hid (SWt3.out.off ho_ BKb2.out (by decide))
  replace HL:=hid (ho_.below HL.out GEb2.out)
  replace BKb2:=hid hB_
  clear ho_ hB_
  refine Qz ?_
  refine hQ_ _ _ (fun h_=>absurd h_ (by decide)) ?_
  clear hQ_ Q'_
  simp only [Act.put]
  refine JH ?_
  clear WR64 WR32 WR8 WRU
  go_wp2_with fail
  (try simp only [Act.put,sI,sZ,sS])
  refine bodyPost_ret (v:=.tuple #[.agg #[Ii 0,Ii 0,Ii 0,.bool false],.agg #[Ii t5,Ii t6,Ii t7]]) (VC Zp Qs rfl _ gb1 gb2 #[Ii 0,Ii 0,Ii 0,.bool false] #[Ii t5,Ii t6,Ii t7] BKb1.out rfl rfl BKb2.out rfl rfl) rfl ?_
  exact ⟨by first|rfl|(simp;done)|(simp [*];done),HL.out⟩
end Go.Proofs.YtaipghemddjecaaGreatDoor
