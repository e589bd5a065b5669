import Derived.Test.YtaipghemddjecaaGreatDoorPly
import Derived.ProofKit
import Derived.OpenShut
import Derived.Test.YtaipghemddjecaaGreatDoorT5y
import Derived.LaidSub
import Derived.Lib.LaidTab
namespace Go.Proofs.YtaipghemddjecaaGreatDoor
set_option maxHeartbeats 40000000
set_option maxRecDepth 100000
open Go.ChangeShapes Go.WideShapes Go.ChangeAt Go.RowKit
def QgA:Value→Int | .int .i8 n=>n|_=>0
theorem QgB{n:Int}(h:(Lit.int .i8 n).wf=true):-128≤n∧n≤127:=by simpa [Lit.wf,IntKind.min,IntKind.max,IntKind.signed,IntKind.bits] using h
theorem QfL:Tryz.prog.underlying 22=some (.int .i8):=by kernel_rfl
theorem KM:Tryz.prog.underlying 3=some (.int .i64):=by kernel_rfl
theorem Qca:Tryz.prog.cellsOf 22=1:=by kernel_rfl
theorem XU:Tryz.prog.cellsOf 3=1:=by kernel_rfl
theorem qR:Tryz.prog.cellsOf 24=64:=by kernel_rfl
theorem za:Tryz.prog.cellsOf 26=67:=by kernel_rfl
section
variable {H:Type} {enc:TypeId×Value→H} {W:World} {b:Nat} {sp:Nat→Bool} {hd:Bool}
theorem xD{fuel:Nat}{cs:List Value}{x:DataW H×List MemPlace}(h:DataW.trod enc Tryz.prog W b sp hd fuel 24 cs=some x):
    ∃ l,cs=l.map (Value.int .i8)∧B8 l:=by
  obtain ⟨xs,m,_,_,hlen,hxl,hi⟩:=DataW.trod_array Qaw h
  rw [qR] at hlen
  have cell:∀ i,i<64 → ∃ n,cs[i]?=some (.int .i8 n) ∧ -128≤n∧n≤127:=fun i hlt=>by
    have h1:=hi i hlt
    rw [Qca,Nat.mul_one,List.getElem?_eq_getElem (by omega)] at h1
    obtain ⟨n,hn,_,hw⟩:=DataW.trod_int QfL h1
    rw [List.drop_eq_getElem_cons (by omega)] at hn
    simp only [List.take_succ_cons,List.take_zero,List.cons.injEq,and_true] at hn
    exact ⟨n,by rw [List.getElem?_eq_getElem (by omega),hn],QgB hw⟩
  refine ⟨cs.map QgA,?_,by rw [List.length_map,hlen],fun i=>?_⟩
  · apply List.ext_getElem?
    intro i
    rcases Nat.lt_or_ge i 64 with hlt|hge
    · obtain ⟨n,hn,_⟩:=cell i hlt
      simp [hn,QgA]
    · simp [List.getElem?_eq_none (show cs.length≤i by omega)]
  · rcases Nat.lt_or_ge i 64 with hlt|hge
    · obtain ⟨n,hn,h2⟩:=cell i hlt
      rw [List.getD_eq_getElem?_getD,List.getElem?_map,hn]
      exact h2
    · rw [List.getD_eq_getElem?_getD,List.getElem?_eq_none (by rw [List.length_map];omega)]
      decide
theorem QdW:∃ f0 f1 f2 f3:Field,Tryz.prog.underlying 26=some (.struct #[f0,f1,f2,f3])∧f0.type=24∧f0.offset=0∧f1.type=3∧f1.offset=64∧f2.type=3∧f2.offset=65∧f3.type=3∧f3.offset=66:=by
  refine ⟨_,_,_,_,Tryz.underlying26,rfl,rfl,rfl,rfl,rfl,rfl,rfl,rfl⟩
end
set_option maxHeartbeats 40000000
set_option maxRecDepth 100000
open Go.ChangeShapes Go.WideShapes Go.ChangeAt Go.RowKit
theorem zI:Tryz.prog.underlying 4=some .bool:=by kernel_rfl
theorem VY:Tryz.prog.cellsOf 4=1:=by kernel_rfl
theorem jo:Tryz.prog.cellsOf 28=4:=by kernel_rfl
theorem kO:Tryz.prog.cellsOf 30=75:=by kernel_rfl
theorem Qcb:∃ f0 f1 f2 f3:Field,Tryz.prog.underlying 28=some (.struct #[f0,f1,f2,f3])∧f0.type=3∧f0.offset=0∧f1.type=3∧f1.offset=1∧f2.type=3∧f2.offset=2∧f3.type=4∧f3.offset=3:=
  ⟨_,_,_,_,Tryz.underlying28,rfl,rfl,rfl,rfl,rfl,rfl,rfl,rfl⟩
theorem Qcc:∃ f0 f1 f2 f3 f4 f5:Field,Tryz.prog.underlying 30=some (.struct #[f0,f1,f2,f3,f4,f5])∧f0.type=26∧f0.offset=0∧f1.type=28∧f1.offset=67∧f2.type=4∧f2.offset=71∧f3.type=4∧f3.offset=72∧f4.type=3∧f4.offset=73∧f5.type=3∧f5.offset=74:=
  ⟨_,_,_,_,_,_,Tryz.underlying30,rfl,rfl,rfl,rfl,rfl,rfl,rfl,rfl,rfl,rfl,rfl,rfl⟩
section
variable {H:Type} {enc:TypeId×Value→H} {W:World} {b:Nat} {sp:Nat→Bool} {hd:Bool}
theorem QaF{fuel:Nat}{cs:List Value}{x:DataW H×List MemPlace}(h:DataW.trod enc Tryz.prog W b sp hd fuel 26 cs=some x):
    ∃ (l:List Int) (t c e:Int),cs=l.map (Value.int .i8)++[Value.int .i64 t,Value.int .i64 c,Value.int .i64 e]∧B8 l:=by
  obtain ⟨f0,f1,f2,f3,hu,t0,o0,t1,o1,t2,o2,t3,o3⟩:=QdW
  obtain ⟨xs,m,_,_,hlen,hxl,hi⟩:=DataW.trod_struct hu h
  rw [za] at hlen
  have h0:=hi 0 f0 rfl
  have h1:=hi 1 f1 rfl
  have h2:=hi 2 f2 rfl
  have h3:=hi 3 f3 rfl
  rw [t0,o0,qR,List.drop_zero,List.getElem?_eq_getElem (by rw [hxl];simp)] at h0
  rw [t1,o1,XU,List.getElem?_eq_getElem (by rw [hxl];simp)] at h1
  rw [t2,o2,XU,List.getElem?_eq_getElem (by rw [hxl];simp)] at h2
  rw [t3,o3,XU,List.getElem?_eq_getElem (by rw [hxl];simp)] at h3
  obtain ⟨l,hl,h8⟩:=xD h0
  obtain ⟨t,ht,_,wt⟩:=DataW.trod_int KM h1
  obtain ⟨c,hc,_,wc⟩:=DataW.trod_int KM h2
  obtain ⟨e,he,_,we⟩:=DataW.trod_int KM h3
  refine ⟨l,t,c,e,?_,h8⟩
  rw [← List.take_append_drop 64 cs,hl]
  congr 1
  rw [← List.take_append_drop 1 (cs.drop 64),ht,List.drop_drop,← List.take_append_drop 1 (cs.drop (64+1)),hc,List.drop_drop,← List.take_append_drop 1 (cs.drop (64+1+1)),he,List.drop_drop,List.drop_eq_nil_of_le (by omega)]
  rfl
theorem kP{fuel:Nat}{cs:List Value}{x:DataW H×List MemPlace}(h:DataW.trod enc Tryz.prog W b sp hd fuel 28 cs=some x):
    ∃ (k g n:Int) (q:Bool),cs=[Value.int .i64 k,Value.int .i64 g,Value.int .i64 n,Value.bool q]:=by
  obtain ⟨f0,f1,f2,f3,hu,t0,o0,t1,o1,t2,o2,t3,o3⟩:=Qcb
  obtain ⟨xs,m,_,_,hlen,hxl,hi⟩:=DataW.trod_struct hu h
  rw [jo] at hlen
  have h0:=hi 0 f0 rfl
  have h1:=hi 1 f1 rfl
  have h2:=hi 2 f2 rfl
  have h3:=hi 3 f3 rfl
  rw [t0,o0,XU,List.drop_zero,List.getElem?_eq_getElem (by rw [hxl];simp)] at h0
  rw [t1,o1,XU,List.getElem?_eq_getElem (by rw [hxl];simp)] at h1
  rw [t2,o2,XU,List.getElem?_eq_getElem (by rw [hxl];simp)] at h2
  rw [t3,o3,VY,List.getElem?_eq_getElem (by rw [hxl];simp)] at h3
  obtain ⟨k,hk,_,_⟩:=DataW.trod_int KM h0
  obtain ⟨g,hg,_,_⟩:=DataW.trod_int KM h1
  obtain ⟨n,hn,_,_⟩:=DataW.trod_int KM h2
  obtain ⟨q,hq,_⟩:=DataW.trod_bool zI h3
  refine ⟨k,g,n,q,?_⟩
  rw [← List.take_append_drop 1 cs,hk,← List.take_append_drop 1 (cs.drop 1),hg,List.drop_drop,← List.take_append_drop 1 (cs.drop (1+1)),hn,List.drop_drop,← List.take_append_drop 1 (cs.drop (1+1+1)),hq,List.drop_drop,List.drop_eq_nil_of_le (by omega)]
  rfl
theorem open_task{base:Nat}{v:Value}{d:DataW H}{ps:List MemPlace}(hv:Value.okWide Tryz.prog W .any base 30 v)(h:DataW.Trod enc Tryz.prog W b sp hd 30 v d ps):
    ∃ s:TS,v=.agg (KC s)∧B8 s.b:=by
  obtain ⟨f0,f1,f2,f3,f4,f5,hu,t0,o0,t1,o1,t2,o2,t3,o3,t4,o4,t5,o5⟩:=Qcc
  unfold Value.okWide at hv
  rw [hu] at hv
  obtain ⟨cs,rfl,_,_⟩:=hv
  obtain ⟨fuel,hf⟩:=h
  obtain ⟨xs,m,_,_,hlen,hxl,hi⟩:=DataW.trod_struct hu hf
  rw [kO] at hlen
  simp only [Value.cells] at hlen hi
  have h0:=hi 0 f0 rfl
  have h1:=hi 1 f1 rfl
  have h2:=hi 2 f2 rfl
  have h3:=hi 3 f3 rfl
  have h4:=hi 4 f4 rfl
  have h5:=hi 5 f5 rfl
  rw [t0,o0,za,List.drop_zero,List.getElem?_eq_getElem (by rw [hxl];simp)] at h0
  rw [t1,o1,jo,List.getElem?_eq_getElem (by rw [hxl];simp)] at h1
  rw [t2,o2,VY,List.getElem?_eq_getElem (by rw [hxl];simp)] at h2
  rw [t3,o3,VY,List.getElem?_eq_getElem (by rw [hxl];simp)] at h3
  rw [t4,o4,XU,List.getElem?_eq_getElem (by rw [hxl];simp)] at h4
  rw [t5,o5,XU,List.getElem?_eq_getElem (by rw [hxl];simp)] at h5
  obtain ⟨l,t,c,e,hl,h8⟩:=QaF h0
  obtain ⟨k,g,n,q,hs⟩:=kP h1
  obtain ⟨tr,htr,_⟩:=DataW.trod_bool zI h2
  obtain ⟨se,hse,_⟩:=DataW.trod_bool zI h3
  obtain ⟨mx,hmx,_,_⟩:=DataW.trod_int KM h4
  obtain ⟨rt,hrt,_,_⟩:=DataW.trod_int KM h5
  refine ⟨⟨⟨#[]⟩,0,0,l,t,c,e,k,g,n,q,tr,se,mx,rt,0,.map none⟩,?_,h8⟩
  have hx:cs.toList=l.map (Value.int .i8)++[Value.int .i64 t,Value.int .i64 c,Value.int .i64 e,.int .i64 k,.int .i64 g,.int .i64 n,.bool q,.bool tr,.bool se,.int .i64 mx,.int .i64 rt]:=by
    rw [← List.take_append_drop 67 cs.toList,hl,List.append_assoc]
    congr 1
    rw [← List.take_append_drop 4 (cs.toList.drop 67),hs,List.drop_drop,← List.take_append_drop 1 (cs.toList.drop (67+4)),htr,List.drop_drop,← List.take_append_drop 1 (cs.toList.drop (67+4+1)),hse,List.drop_drop,
      ← List.take_append_drop 1 (cs.toList.drop (67+4+1+1)),hmx,List.drop_drop,← List.take_append_drop 1 (cs.toList.drop (67+4+1+1+1)),hrt,List.drop_drop,List.drop_eq_nil_of_le (by omega)]
    rfl
  unfold KC xv
  rw [← hx,Array.toArray_toList]
end
theorem tb_of{l:List (String×DataW Unit)}{W:World}(h:laidMetH Tryz.prog l W)(hf:(l.filter fun x=>x.1=="internal/strconv.uint64pow10")=[("internal/strconv.uint64pow10",Lib.tabData .u64 Lib.pow10Tab)]):Tb W∧0<W.heap.size:=by
  have h1:=h.filter (fun x=>x.1=="internal/strconv.uint64pow10")
  rw [hf] at h1
  have h2:laidMet Tryz.prog [("internal/strconv.uint64pow10",Lib.tabData .u64 Lib.pow10Tab)] W:=h1
  have tb:Tb W:=Lib.tabIs_of_head xE (t:=133) (e:=117) (n:=20) (by kernel_rfl) (by kernel_rfl) (by kernel_rfl) (by kernel_rfl) (by kernel_rfl) h2
  refine ⟨tb,?_⟩
  unfold Tb Lib.TabIs World.var? at tb
  rw [xE] at tb
  simp only [Option.bind_some] at tb
  rcases Nat.lt_or_ge 0 W.heap.size with h|h
  · exact h
  · rw [Array.getElem?_eq_none h] at tb
    cases tb
end Go.Proofs.YtaipghemddjecaaGreatDoor
