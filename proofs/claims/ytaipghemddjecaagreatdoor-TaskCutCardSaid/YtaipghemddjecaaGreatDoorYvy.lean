import Derived.Test.YtaipghemddjecaaGreatDoorGwy
namespace Go.Proofs.YtaipghemddjecaaGreatDoor
set_option maxHeartbeats 40000000
set_option maxRecDepth 100000
open Go.RowKit
set_option linter.unusedSimpArgs false
set_option linter.unusedVariables false
def yv{α:Type}(pre:List Value)(f:α→Value)(l:List α)(cs:List Value):Array Value:=(pre++(l.map f++cs)).toArray
section
variable {α:Type} {f:α→Value} {l l':List α} {pre cs cs':List Value} {a n c m:Nat}
theorem Qaq:(yv pre f l cs).size=pre.length+(l.length+cs.length):=by unfold yv;simp
theorem QC(hp:pre.length=a)(j:Nat)(h:j<a):(yv pre f l cs)[j]?=pre[j]?:=by
  subst hp;unfold yv;simp [List.getElem?_append,h]
theorem ZK(hp:pre.length=a)(hl:l.length=n)(j m:Nat)(hm:m=a+(n+j)):(yv pre f l cs)[m]?=cs[j]?:=by
  subst hm;subst hp;subst hl;unfold yv
  rw [List.getElem?_toArray,List.getElem?_append_right (by omega),show pre.length+(l.length+j)-pre.length=l.length+j by omega,List.getElem?_append_right (by rw [List.length_map];omega),List.length_map,Nat.add_sub_cancel_left]
theorem Xm(hp:pre.length=a)(hl:l.length=n)(hc:cs.length=c)(h:m<a+(n+c)):m<(yv pre f l cs).size:=by rw [Qaq,hp,hl,hc];exact h
theorem zh(hp:pre.length=a)(hl:l.length=n)(hc:cs.length=c)(h:m≤a+(n+c)):m≤(yv pre f l cs).size:=by rw [Qaq,hp,hl,hc];exact h
theorem Xr(hp:pre.length=a)(j:Nat)(h:j<a)(v:Value):(yv pre f l cs).setIfInBounds j v=yv (pre.set j v) f l cs:=by
  subst hp;unfold yv;simp [List.set_append,h]
theorem Kc(hp:pre.length=a)(hl:l.length=n)(j m:Nat)(hm:m=a+(n+j))(v:Value):(yv pre f l cs).setIfInBounds m v=yv pre f l (cs.set j v):=by
  subst hm;subst hp;subst hl;unfold yv
  rw [List.setIfInBounds_toArray,List.set_append_right _ _ (by omega),show pre.length+(l.length+j)-pre.length=l.length+j by omega,List.set_append_right _ _ (by rw [List.length_map];omega),List.length_map,Nat.add_sub_cancel_left]
theorem vV(hp:pre.length=a)(hl:l.length=n)(hl':l'.length=n):KY (av f l').toList a (yv pre f l cs)=yv pre f l' cs:=by
  apply Array.ext'
  rw [Kh _ _ _ (by unfold yv av;simp;omega)]
  subst hp
  unfold yv av
  simp [hl,hl',List.take_append,List.drop_append]
theorem Qed(hp:pre.length=a)(hl:l.length=n)(vs:List Value)(j m:Nat)(hm:m=a+(n+j))(hb:j+vs.length≤cs.length)(h:(cs.take j++vs++cs.drop (j+vs.length))=cs'):KY vs m (yv pre f l cs)=yv pre f l cs':=by
  subst h;subst hm;subst hp;subst hl
  apply Array.ext'
  rw [Kh _ _ _ (by unfold yv;simp;omega)]
  unfold yv
  simp [List.take_append,List.drop_append]
  rw [List.take_of_length_le (l:=pre) (by omega),List.take_of_length_le (l:=List.map f l) (by rw [List.length_map];omega),List.drop_of_length_le (l:=pre) (by omega),List.drop_of_length_le (l:=List.map f l) (by rw [List.length_map];omega),List.nil_append,List.nil_append,show pre.length+(l.length+j)+vs.length-pre.length-l.length=j+vs.length by omega]
theorem Qfq(hp:pre.length=a)(hl:l.length=n)(hc:c≤cs.length)(hm:m=a+(n+c)):(yv pre f l cs).extract a m=xv f l (cs.take c):=by
  apply Array.ext'
  subst hm;subst hp;subst hl
  unfold yv xv
  simp [List.take_append]
  exact List.take_of_length_le (by simp)
theorem qE(hl:l.length=n)(j m z:Nat)(hm:m=n+j):(xv f l cs).extract m (m+z)=((cs.drop j).take z).toArray:=by
  apply Array.ext'
  subst hm;subst hl
  unfold xv
  simp [List.drop_append]
  rw [List.drop_of_length_le (l:=List.map f l) (by rw [List.length_map];omega),List.nil_append]
theorem qD(hl:l.length=n)(hc:cs.length=c)(h:m≤n+c):m≤(xv f l cs).size:=by rw [QE,hl,hc];exact h
theorem Qcx(hl:l.length=n)(hc:cs.length=c)(h:m≤n+c):0+m≤(xv f l cs).size:=by rw [QE,hl,hc];omega
theorem Qcy(hl:l.length=n)(hc:c≤cs.length)(hm:m=n+c):(xv f l cs).extract 0 (0+m)=xv f l (cs.take c):=by
  apply Array.ext'
  subst hm;subst hl
  unfold xv
  simp [List.take_append]
  exact List.take_of_length_le (by simp)
theorem Qgg(hp:pre.length=a)(hl:l.length=n)(j m z:Nat)(hm:m=a+(n+j)):(yv pre f l cs).extract m (m+z)=((cs.drop j).take z).toArray:=by
  apply Array.ext'
  subst hm;subst hp;subst hl
  unfold yv
  simp [List.drop_append]
  rw [List.drop_of_length_le (l:=pre) (by omega),List.drop_of_length_le (l:=List.map f l) (by rw [List.length_map];omega),List.nil_append,List.nil_append]
end
end Go.Proofs.YtaipghemddjecaaGreatDoor
