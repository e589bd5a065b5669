import Derived.Test.YtaipghemddjecaaGreatDoorMiy
import Derived.Test.YtaipghemddjecaaGreatDoorWcy
import Derived.Test.YtaipghemddjecaaGreatDoorTzy
import Derived.Test.YtaipghemddjecaaGreatDoorT7wy
namespace Go.Proofs.YtaipghemddjecaaGreatDoor
set_option maxHeartbeats 40000000
set_option maxRecDepth 100000
open Go.RowKit
set_option linter.unusedVariables false
set_option linter.unusedSimpArgs false
theorem Qgq(s:FSt):stp 10 s=none:=by
  unfold stp
  rw [if_neg (by decide),if_neg (by decide)]
  simp [show qf 10=0 from by decide +kernel]
theorem QdJ{t:ByteArray}:∀ (i:Nat) (s:FSt),Xa t i=some s → ∀ j,j<i→bt t j≠10
  |0,_,_,j,hj=>by omega
  |i+1,s,h,j,hj=>by
    rw [Xa] at h
    obtain ⟨s1,h1,h2⟩:=Ia h
    rcases (show j<i∨j=i by omega) with c|c
    · exact QdJ i s1 h1 j c
    · subst c
      intro e
      rw [e,Qgq] at h2
      cases h2
theorem QgX{b:List Int}(hb:Men b):∀ c∈(wrT b 7).data.toList,c≠10:=by
  have h0:Xa (wrT b 7) 0=some (stF b 7 0):=by
    show some (([]:List Int),(0:Int),(0:Int))=_
    unfold stF;simp
  have h:=Qdv hb (t:=wrT b 7) 7 0 (by omega) (fun j hj=>by rw [Nat.zero_add]) h0
  rw [Nat.zero_add] at h
  have L:=QdJ _ _ h
  intro c hc e
  obtain ⟨j,hj,hx⟩:=List.mem_iff_getElem.1 hc
  have hj2:j<(wrT b 7).size:=by simpa using hj
  refine L j hj2 ?_
  unfold bt
  rw [List.getD_eq_getElem?_getD,List.getElem?_eq_getElem hj,hx,e];rfl
theorem Qbx{s:TS}{sb:ByteArray}(h:RightT s sb)(hl:s.b.length=64){T R:ByteArray}(hT:T=KH (wrT s.b 7) sb++R):JP (JQ (Zc T))=(y0 s T).to (KH (wrT s.b 7) sb):=by
  have eH:KH (wrT s.b 7) sb=ZW++(wd XG 0++(wrT s.b 7++(nlB++(XV++(sb++nlB))))):=by
    unfold KH
    rw [show XD=ZW++wd XG 0 from rfl,show Vv=nlB++XV from rfl]
    simp only [ByteArray.append_assoc]
  have h1:AtS (Zc T) ⟨#[]⟩ (ZW++(wd XG 0++(wrT s.b 7++(nlB++(XV++(sb++(nlB++R))))))):=⟨by show T=_;rw [xj,hT,eH];simp only [ByteArray.append_assoc],rfl,rfl⟩
  have e1:=QdD 0 (.inl ⟨rfl,rfl⟩) (QeD hl h.men) (QgX h.men) h1
  rw [show ZW++(wd XG 0++(wrT s.b 7++(nlB++(XV++(sb++(nlB++R))))))=(ZW++(wd XG 0++(wrT s.b 7++nlB)))++(XV++(sb++(nlB++R))) by simp only [ByteArray.append_assoc]] at h1
  have h2:AtS ({ (Zc T).to (⟨#[]⟩++(ZW++(wd XG 0++(wrT s.b 7++nlB)))) with b:=s.b }:TS) (⟨#[]⟩++(ZW++(wd XG 0++(wrT s.b 7++nlB)))) (XV++(sb++(nlB++R))):=h1.next rfl rfl rfl
  rw [e1,QdC h.sz h2,xj]
  rw [show ZW++(wd XG 0++(wrT s.b 7++nlB))++(XV++(sb++nlB))=KH (wrT s.b 7) sb by rw [eH];simp only [ByteArray.append_assoc]]
  rfl
def qw(s:TS)(sb:ByteArray):ByteArray:=vc s (wrT s.b 7) sb (caT (Kg s.ca.toNat))
theorem Qby{s:TS}{sb:ByteArray}(h:RightT s sb):0<(qw s sb).size∧(qw s sb).size≤900:=by
  have w:=xg h.men 7
  have c:=(jf h.ca.1 h.ca.2).2.2.2
  have i1:=Vf s.mx (by have:=h.mx;omega) h.mx.2
  have i2:=Vf s.rt (by have:=h.rt;omega) (by have:=h.rt;omega)
  have n1:=qF s.ep
  have s1:(Vg s.tu).size≤5:=by rcases h.tu with e|e <;> rw [e] <;> decide
  have ss:=h.ss
  unfold qw
  rw [zy,Qn,show Vr.size=4 from rfl]
  refine ⟨by omega,?_⟩
  have hd:(KH (wrT s.b 7) sb).size≤300:=by unfold KH;rw [Qn,Qn,Qn,Qn,show XD.size=14 from rfl,show Vv.size=6 from rfl,show nlB.size=1 from rfl];omega
  unfold ky
  generalize KH (wrT s.b 7) sb=H at hd
  have t1:=Zn s.tr H (Jj 6++⟨#[]⟩)
  generalize Zi s.tr H (Jj 6++⟨#[]⟩)=o1 at t1 ⊢
  have t2:=Zn s.se o1 (Jj 4++⟨#[]⟩)
  generalize Zi s.se o1 (Jj 4++⟨#[]⟩)=o2 at t2 ⊢
  have t3:=Zn (s.tu != XR s.ki s.go s.n s.hf) o2 (Jj 5++(spB++Vg s.tu))
  generalize Zi (s.tu != XR s.ki s.go s.n s.hf) o2 (Jj 5++(spB++Vg s.tu))=o3 at t3 ⊢
  have t4:=Zn (decide (0<s.mx)) o3 (Jj 2++(spB++Ku s.mx))
  generalize Zi (decide (0<s.mx)) o3 (Jj 2++(spB++Ku s.mx))=o4 at t4 ⊢
  have t5:=Zn (decide (0<s.ca)) o4 (Jj 0++(spB++caT (Kg s.ca.toNat)))
  generalize Zi (decide (0<s.ca)) o4 (Jj 0++(spB++caT (Kg s.ca.toNat)))=o5 at t5 ⊢
  have t6:=Zn (decide (0≤s.ep)) o5 (Jj 1++(spB++Kb s.ep))
  generalize Zi (decide (0≤s.ep)) o5 (Jj 1++(spB++Kb s.ep))=o6 at t6 ⊢
  have t7:=Zn (decide (0≤s.rt)) o6 (Jj 3++(spB++Ku s.rt))
  generalize Zi (decide (0≤s.rt)) o6 (Jj 3++(spB++Ku s.rt))=o7 at t7 ⊢
  rw [Qn,show (Jj 6).size=3 from rfl,show (⟨#[]⟩:ByteArray).size=0 from rfl] at t1
  rw [Qn,show (Jj 4).size=3 from rfl,show (⟨#[]⟩:ByteArray).size=0 from rfl] at t2
  rw [Qn,Qn,show (Jj 5).size=4 from rfl,show spB.size=1 from rfl] at t3
  rw [Qn,Qn,show (Jj 2).size=6 from rfl,show spB.size=1 from rfl] at t4
  rw [Qn,Qn,show (Jj 0).size=6 from rfl,show spB.size=1 from rfl] at t5
  rw [Qn,Qn,show (Jj 1).size=2 from rfl,show spB.size=1 from rfl] at t6
  rw [Qn,Qn,show (Jj 3).size=5 from rfl,show spB.size=1 from rfl] at t7
  omega
theorem QeR{s:TS}{sb:ByteArray}(h:RightT s sb)(hr:JO.f 30000 s.b s.tu s.ca s.ep s.ki s.go s.n s.hf s.tr s.se s.mx s.rt=some true):
    JY.f 30000 s.b s.tu s.ca s.ep s.ki s.go s.n s.hf s.tr s.se s.mx s.rt=some (qw s sb,0):=by
  have w:=xg h.men 7
  have c:=jf h.ca.1 h.ca.2
  unfold JY.f
  rw [hr,h.fw,h.sw,c.1]
  simp only [Option.bind_some]
  rw [if_pos trivial,if_pos ⟨by omega,by have:=h.ss;omega,by have:=c.2.2.2;omega,h.tu,by have:=h.mx;omega,h.mx.2,by have:=h.rt;omega,by have:=h.rt;omega⟩]
  rfl
theorem QeS(s:TS)(hr:JO.f 30000 s.b s.tu s.ca s.ep s.ki s.go s.n s.hf s.tr s.se s.mx s.rt=some false):
    JY.f 30000 s.b s.tu s.ca s.ep s.ki s.go s.n s.hf s.tr s.se s.mx s.rt=some (⟨#[]⟩,5):=by
  unfold JY.f
  rw [hr];rfl
theorem QeT{s:TS}{sb:ByteArray}(h:RightT s sb)(hl:s.b.length=64):(ZZ (qw s sb)).e=0:=by
  have hT:=zy s (wrT s.b 7) sb (caT (Kg s.ca.toNat))
  have hR:∃ R,qw s sb=KH (wrT s.b 7) sb++R:=by
    unfold qw
    rw [hT]
    exact Zy (Zy (Zy (Zy (Zy (Zy (Zy ⟨Vr,rfl⟩))))))
  obtain ⟨R,hR⟩:=hR
  obtain ⟨y,hy,_⟩:=Qbw h (T:=qw s sb) (H:=KH (wrT s.b 7) sb) hT (Qbx h hl hR)
  rw [hy];rfl
theorem QdK:JR.f 30000=some true:=by decide +kernel
theorem Qgr{T:ByteArray}(h0:(ZZ T).e=0){n:Nat}(hn:n<T.size):(ZZ (T.extract 0 n)).e=1∧Vl (T.extract 0 n)=n:=by
  have hT:T=T.extract 0 n++T.extract n T.size:=by
    apply ByteArray.ext;apply Array.ext';simp
  have hs:(T.extract 0 n).size=n:=by simp;omega
  have hs2:0<(T.extract n T.size).size:=by simp;omega
  have G:=zu (T.extract 0 n) (T.extract n T.size)
  rw [← hT,h0,hs] at G
  rcases G with ⟨a,b,_⟩|⟨a,b,_⟩|⟨a,b,⟨c,_⟩|⟨_,c,_⟩⟩
  · exact absurd b (by decide)
  · exact ⟨a,b⟩
  · omega
  · exact absurd c (by decide)
theorem QeU{T:ByteArray}(h0:(ZZ T).e=0){m:ByteArray}(hm:0<m.size):(ZZ (T++m)).e=2∧Vl (T++m)=T.size:=by
  rcases zu T m with ⟨a,_⟩|⟨a,_⟩|⟨a,b,⟨c,_⟩|⟨_,c,d⟩⟩
  · omega
  · omega
  · omega
  · exact ⟨c,by rw [d,b]⟩
theorem xl(b:Int):(strOfNums [b]).size=1:=by rw [strOfNums_size];rfl
theorem Qgs(s:TS)(hb:B8 s.b)(n by_:Int)(n0:0≤n)(n1:n≤65535)(b0:0≤by_)(b1:by_≤255):Zj.f 30000 s.b s.tu s.ca s.ep s.ki s.go s.n s.hf s.tr s.se s.mx s.rt n by_=some true:=by
  unfold Zj.f
  rw [QdK]
  simp only [Option.bind_some]
  rw [if_pos trivial]
  rcases Qbv s hb with hr|⟨hr,sb,h⟩
  · rw [QeS s hr]
    simp only [Option.bind_some]
    rw [if_neg (show ¬ (5:Int)=0 by decide),ByteArray.toList_eq];rfl
  · have hs:=Qby h
    have hk:=QeT h hb.1
    rw [QeR h hr]
    simp only [Option.bind_some]
    generalize qw s sb=T at hs hk
    have w:wrap64 n=n:=w64 (by omega) (by omega)
    obtain ⟨m,rfl⟩:∃ m:Nat,n=(m:Int):=⟨n.toNat,by omega⟩
    have hm:Int.tmod (m:Int) (T.size:Int)=((m%T.size:Nat):Int):=by rw [Int.ofNat_tmod]
    have hlt:=Nat.mod_lt m hs.1
    rw [if_pos trivial,w,hm]
    generalize m%T.size=q at hlt
    have C:=Qgr hk hlt
    have sz:(T.extract 0 q).size=q:=by simp;omega
    have M:=QeU hk (m:=strOfNums [by_]) (by rw [xl by_];decide)
    have sz2:(T++strOfNums [by_]).size=T.size+1:=by rw [Qn,xl by_]
    rw [if_neg (by omega),if_pos (by omega),if_pos (by omega),Int.toNat_natCast,zs (by omega)]
    simp only [Option.bind_some]
    rw [if_pos (by rw [xl by_];omega),zs (by omega)]
    simp only [Option.bind_some]
    rw [zt,zt,Qak,Qak,if_pos C.1,if_pos C.2,if_pos M.1,M.2]
    simp
theorem xm(s:TS)(hb:B8 s.b)(n by_:Int)(n0:0≤n)(n1:n≤65535)(b0:0≤by_)(b1:by_≤255)(w:World)(ht:Tb w)(hz:0<w.heap.size):
    Calls Tryz.prog 3 #[.agg (KC s),.int .u16 n,.int .u8 by_] w fun e w'=>e=.returned (.bool true)∧Below w.heap.size w w':=
  Zj.c 30000 s.b s.tu s.ca s.ep s.ki s.go s.n s.hf s.tr s.se s.mx s.rt n by_ hb.1 true w ht hz (Qgs s hb n by_ n0 n1 b0 b1)
theorem law_TaskCut(s:TS)(n by_:Int)(hb:B8 s.b)(hn:(Lit.int .u16 n).wf=true)(hy:(Lit.int .u8 by_).wf=true)(w:World)(ht:Tb w∧0<w.heap.size):
    Calls Tryz.prog 3 #[.agg (KC s),.int .u16 n,.int .u8 by_] w fun e w'=>e=.returned (.bool true)∧Below w.heap.size w w':=by
  have h1:0≤n∧n≤65535:=by simpa [Lit.wf,IntKind.min,IntKind.max,IntKind.signed,IntKind.bits] using hn
  have h2:0≤by_∧by_≤255:=by simpa [Lit.wf,IntKind.min,IntKind.max,IntKind.signed,IntKind.bits] using hy
  exact xm s hb n by_ h1.1 h1.2 h2.1 h2.2 w ht.1 ht.2
end Go.Proofs.YtaipghemddjecaaGreatDoor
