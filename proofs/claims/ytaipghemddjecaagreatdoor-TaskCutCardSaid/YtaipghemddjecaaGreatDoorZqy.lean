import Derived.Test.YtaipghemddjecaaGreatDoorLvy
import Derived.Test.YtaipghemddjecaaGreatDoorL5wy
import Derived.Test.YtaipghemddjecaaGreatDoorL6wy
import Derived.Test.YtaipghemddjecaaGreatDoorSzy
namespace Go.Proofs.YtaipghemddjecaaGreatDoor
set_option maxHeartbeats 40000000
set_option maxRecDepth 100000
open Go.RowKit
set_option linter.unusedVariables false
set_option linter.unusedSimpArgs false
theorem QgY{x:Int}(h0:-2147483648≤x)(h1:x<2147483648):wrap32 x=x:=by unfold wrap32;omega
theorem zM(t:ByteArray){i:Nat}(h:t.size≤i):bt t i=0:=by
  unfold bt
  rw [List.getD_eq_getElem?_getD,List.getElem?_eq_none (by simpa using h)];rfl
theorem zN(t m:ByteArray){i:Nat}(h:t.size≤i):bt (t++m) i=bt m (i-t.size):=by
  unfold bt
  rw [ByteArray.data_append,Array.toList_append,List.getD_eq_getElem?_getD,List.getD_eq_getElem?_getD,List.getElem?_append_right (by simpa using h)]
  simp
theorem kT{c:Int}(h0:0≤c)(h:c<128):(Utf8.encode c).size=1∧bt (Utf8.encode c) 0=c:=by
  have hv:Utf8.valid c=true:=by unfold Utf8.valid;simp;omega
  unfold Utf8.encode
  simp only [hv,if_true]
  rw [if_pos (by omega)]
  refine ⟨rfl,?_⟩
  show ((UInt8.ofNat c.toNat).toNat:Int)=c
  rw [UInt8.toNat_ofNat'];omega
theorem kR{c:Int}(h:128≤c):0<(Utf8.encode c).size∧(Utf8.encode c).size≤4∧128≤bt (Utf8.encode c) 0:=by
  unfold Utf8.encode
  obtain ⟨n,hn,h1,h2⟩:∃ n:Nat,(if Utf8.valid c=true then c.toNat else Utf8.runeError)=n∧128≤n∧n≤1114111:=by
    refine ⟨_,rfl,?_,?_⟩
    · split
      · omega
      · unfold Utf8.runeError;omega
    · split
      · rename_i hv
        unfold Utf8.valid at hv
        simp at hv
        omega
      · unfold Utf8.runeError;omega
  simp only [hn]
  have b:∀ m:Nat,128≤m→m<256→(128:Int)≤((UInt8.ofNat m).toNat:Int):=fun m a1 a2=>by rw [UInt8.toNat_ofNat'];omega
  rw [if_neg (by omega)]
  split
  · exact ⟨by show 0<2;omega,by show 2≤4;omega,b _ (by omega) (by omega)⟩
  · split
    · exact ⟨by show 0<3;omega,by show 3≤4;omega,b _ (by omega) (by omega)⟩
    · exact ⟨by show 0<4;omega,by show 4≤4;omega,b _ (by omega) (by omega)⟩
theorem xn(s:ByteArray)(p:Nat)(h:p<s.size){a b:Int}(ha:0≤a)(hb:b<128):(a≤((Utf8.decode s p).1:Int)∧((Utf8.decode s p).1:Int)≤b)↔(a≤bt s p∧bt s p≤b):=by
  rcases Int.lt_or_le (bt s p) 128 with h1|h1
  · rw [(Vo s p h h1).1]
  · have:=ji s p h h1
    omega
theorem QeV{u:ByteArray}(hs:0<u.size)(h:¬ (97≤bt u 0∧bt u 0≤104)){k:Nat}(hk:0<k):Qm.f k u=some (0,false):=by
  obtain ⟨k,rfl⟩:∃ m,k=m+1:=⟨k-1,by omega⟩
  have hc:=mt (xn u 0 hs (a:=97) (b:=104) (by omega) (by omega)).mp h
  unfold Qm.f
  rw [Qm.l0,if_pos hs]
  generalize ((Utf8.decode u 0).1:Int)=c at hc ⊢
  (repeat' split) <;> first|rfl|omega
theorem zP{u:ByteArray}(hs:1<u.size)(h0:97≤bt u 0∧bt u 0≤104)(h:¬ (49≤bt u 1∧bt u 1≤56)){k:Nat}(hk:1<k):Qm.f k u=some (0,false):=by
  obtain ⟨k,rfl⟩:∃ m,k=m+2:=⟨k-2,by omega⟩
  have hc:=mt (xn u 1 hs (a:=49) (b:=56) (by omega) (by omega)).mp h
  obtain ⟨e1,e2⟩:=Vo u 0 (by omega) (by omega)
  unfold Qm.f
  rw [show k+2=(k+1)+1 from rfl,Qm.l0,if_pos (by omega),e1,e2,if_pos rfl,if_pos h0.1,if_pos h0.2,w64 (x:=0+1) (by omega) (by omega),Nat.zero_add,Int.zero_add]
  rw [Qm.l0,if_pos hs]
  generalize ((Utf8.decode u 1).1:Int)=c at hc ⊢
  (repeat' split) <;> first|rfl|omega
theorem QgZ{f r:Int}(h0:0≤f)(h1:f<8)(h2:0≤r)(h3:r<8):Jn.f f r=some (8*r+f,true):=by
  unfold Jn.f Za.f
  rw [if_pos h0,if_pos h2,w64 (x:=8*r) (by omega) (by omega),w64 (by omega) (by omega)]
  simp [h1,h3]
theorem zO{u:ByteArray}(hs:u.size=2)(h0:97≤bt u 0∧bt u 0≤104)(h:49≤bt u 1∧bt u 1≤56){k:Nat}(hk:2<k):Qm.f k u=some (8*(bt u 1-49)+(bt u 0-97),true):=by
  obtain ⟨k,rfl⟩:∃ m,k=m+3:=⟨k-3,by omega⟩
  obtain ⟨e1,e2⟩:=Vo u 0 (by omega) (by omega)
  obtain ⟨f1,f2⟩:=Vo u 1 (by omega) (by omega)
  unfold Qm.f
  rw [show k+3=(k+2)+1 from rfl,Qm.l0,if_pos (by omega),e1,e2,if_pos rfl,if_pos h0.1,if_pos h0.2,w64 (x:=0+1) (by omega) (by omega),Nat.zero_add,Int.zero_add]
  rw [show k+2=(k+1)+1 from rfl,Qm.l0,if_pos (by omega),f1,f2,if_neg (by decide),if_pos rfl,if_pos h.1,if_pos h.2,w64 (x:=1+1) (by omega) (by omega)]
  rw [Qm.l0,if_neg (by omega),if_pos (by decide)]
  rw [QgY (x:=bt u 0-97) (by omega) (by omega),QgY (x:=bt u 1-49) (by omega) (by omega),w64 (x:=bt u 0-97) (by omega) (by omega),w64 (x:=bt u 1-49) (by omega) (by omega)]
  show ((Jn.f (bt u 0-97) (bt u 1-49)).bind fun b=>some (b.1,b.2))=_
  rw [QgZ (by omega) (by omega) (by omega) (by omega)]
  rfl
def sqZ(t:ByteArray)(a:Nat):Int×Int×Int:=
  if a=t.size then ((a:Int),0,1) else if 97≤bt t a∧bt t a≤104 then
    (if a+1=t.size then ((a:Int)+1,0,1) else if 49≤bt t (a+1)∧bt t (a+1)≤56 then ((a:Int)+2,8*(bt t (a+1)-49)+(bt t a-97),0) else ((a:Int)+1,0,2))
  else ((a:Int),0,2)
theorem Qar{s:ByteArray}{p:Nat}(h:p<s.size):0<(Utf8.encode ((Utf8.decode s p).1:Int)).size∧(Utf8.encode ((Utf8.decode s p).1:Int)).size≤4∧(bt s p<128→(Utf8.encode ((Utf8.decode s p).1:Int)).size=1∧bt (Utf8.encode ((Utf8.decode s p).1:Int)) 0=bt s p)∧(128≤bt s p→128≤bt (Utf8.encode ((Utf8.decode s p).1:Int)) 0):=by
  have b0:=xu s p
  rcases Int.lt_or_le (bt s p) 128 with h1|h1
  · rw [(Vo s p h h1).1]
    obtain ⟨e1,e2⟩:=kT b0 h1
    exact ⟨by omega,by omega,fun _=>⟨e1,e2⟩,fun h=>by omega⟩
  · obtain ⟨e1,e2,e3⟩:=kR (ji s p h h1)
    exact ⟨e1,e2,fun h=>by omega,fun _=>e3⟩
theorem Qha(t:ByteArray)(a:Nat)(f:ByteArray)(ht:t.size≤1000)(ha:a+1<t.size)(h0:97≤bt t a∧bt t a≤104)(hf:f.size=1)(hf0:bt f 0=bt t a){k:Nat}(hk:4<k):Je.l0 k t a f 1=some (sqZ t a):=by
  obtain ⟨k,rfl⟩:∃ m,k=m+1:=⟨k-1,by omega⟩
  have hs:1<(t.extract a t.size).size:=by rw [KE];omega
  have hb:=zE t a 1 (by omega)
  obtain ⟨E1,E2,E3,E4⟩:=Qar hs
  have X0:bt (f++Utf8.encode ((Utf8.decode (t.extract a t.size) 1).1:Int)) 0=bt t a:=by rw [XP _ _ (by omega),hf0]
  have X1:bt (f++Utf8.encode ((Utf8.decode (t.extract a t.size) 1).1:Int)) 1=bt (Utf8.encode ((Utf8.decode (t.extract a t.size) 1).1:Int)) 0:=by rw [zN _ _ (by omega),hf]
  have XS:=Qn f (Utf8.encode ((Utf8.decode (t.extract a t.size) 1).1:Int))
  rw [Je.l0,Int.toNat_natCast,if_pos hs,if_neg (by decide),if_pos (by omega),Int.natCast_one]
  unfold sqZ
  rw [if_neg (by omega),if_pos h0,if_neg (by omega)]
  by_cases h1:49≤bt t (a+1)∧bt t (a+1)≤56
  · obtain ⟨E5,E6⟩:=E3 (by omega)
    rw [if_pos h1,zO (by omega) (by omega) (by omega) (by omega),X0,X1,E6,hb]
    simp only [Option.bind_some,if_true]
    rw [w64 (x:=(a:Int)+1) (by omega) (by omega),w64 (by omega) (by omega)]
    rw [show (a:Int)+1+1=a+2 by omega]
  · have hn:¬ (49≤bt (f++Utf8.encode ((Utf8.decode (t.extract a t.size) 1).1:Int)) 1∧bt (f++Utf8.encode ((Utf8.decode (t.extract a t.size) 1).1:Int)) 1≤56):=by
      rw [X1]
      rcases Int.lt_or_le (bt (t.extract a t.size) 1) 128 with q|q
      · rw [(E3 q).2,hb];exact h1
      · have:=E4 q;omega
    rw [if_neg h1,zP (by omega) (by omega) hn (by omega)]
    simp only [Option.bind_some]
    rw [if_neg (by decide),w64 (x:=(a:Int)+1) (by omega) (by omega)]
theorem Qgb(t:ByteArray)(a:Nat)(ht:t.size≤1000)(ha:a≤t.size){k:Nat}(hk:6<k):Je.l0 k t a ⟨#[]⟩ 0=some (sqZ t a):=by
  obtain ⟨k,rfl⟩:∃ m,k=m+1:=⟨k-1,by omega⟩
  rw [Je.l0,Int.toNat_natCast]
  by_cases he:a=t.size
  · rw [if_neg (by rw [KE];omega)]
    unfold sqZ
    rw [if_pos he,he]
  · have hs:0<(t.extract a t.size).size:=by rw [KE];omega
    have hb:=zE t a 0 (by omega)
    have hri:=xn (t.extract a t.size) 0 hs (a:=97) (b:=104) (by omega) (by omega)
    rw [hb,Nat.add_zero] at hri
    rw [Nat.add_zero] at hb
    obtain ⟨E1,E2,E3,E4⟩:=Qar hs
    rw [if_pos hs,if_pos (by decide)]
    by_cases h0:97≤bt t a∧bt t a≤104
    · have hr:=hri.mpr h0
      rw [if_pos hr.1,if_pos hr.2]
      obtain ⟨d1,d2⟩:=Vo (t.extract a t.size) 0 hs (by omega)
      obtain ⟨E5,E6⟩:=E3 (by omega)
      rw [d2]
      by_cases h1:a+1=t.size
      · obtain ⟨k,rfl⟩:∃ m,k=m+1:=⟨k-1,by omega⟩
        rw [Je.l0,Int.toNat_natCast,if_neg (by rw [KE];omega)]
        unfold sqZ
        rw [if_neg he,if_pos h0,if_pos h1]
        rw [show (t.size:Int)=a+1 by omega]
      · exact Qha t a _ ht (by omega) h0 E5 (by rw [E6,hb]) (by omega)
    · have hr:=mt hri.mp h0
      have P:∀ u:ByteArray,u=(⟨#[]⟩:ByteArray)++Utf8.encode ((Utf8.decode (t.extract a t.size) 0).1:Int)→Qm.f k u=some (0,false):=fun u hu=>by
        have hus:u.size=(Utf8.encode ((Utf8.decode (t.extract a t.size) 0).1:Int)).size:=by rw [hu,Qn];show 0+_=_;omega
        have hu0:bt u 0=bt (Utf8.encode ((Utf8.decode (t.extract a t.size) 0).1:Int)) 0:=by rw [hu,zN _ _ (by show 0≤0;omega)];rfl
        refine QeV (by omega) ?_ (by omega)
        rw [hu0]
        rcases Int.lt_or_le (bt (t.extract a t.size) 0) 128 with q|q
        · rw [(E3 q).2,hb];exact h0
        · have:=E4 q;omega
      have e:=P _ rfl
      unfold sqZ
      rw [if_neg he,if_neg h0]
      have hz:((⟨#[]⟩:ByteArray).size+(Utf8.encode ((Utf8.decode (t.extract a t.size) 0).1:Int)).size≤9223372036854775807):=by show 0+_≤_;omega
      have fin:∀ X:Int,X=a→wrap64 (X+((0:Nat):Int))=a:=fun X h=>by rw [h,w64 (by omega) (by omega)];omega
      rw [e,if_pos hz]
      simp only [Option.bind_some]
      rw [if_neg (show ¬ (false=true) by decide),fin _ rfl]
      split
      · rw [if_neg (fun h=>hr ⟨by assumption,h⟩)]
      · rfl
set_option maxHeartbeats 40000000
set_option maxRecDepth 100000
open Go.RowKit
set_option linter.unusedVariables false
set_option linter.unusedSimpArgs false
structure Goes (t m:ByteArray) (a x e x' e':Int) (same:Prop):Prop where
  ge:a≤x
  le:x≤t.size
  ee:e=0∨e=1∨e=2
  one:e=1→x=t.size
  two:e=2→x<t.size
  ge':a≤x'
  le':x'≤(t++m).size
  ee':e'=0∨e'=1∨e'=2
  app:e=2→same
  ok:e=0→same∨(x=t.size∧(t.size:Int)≤x')
  late:e=1→(t.size:Int)≤x'
section
variable {t m:ByteArray} {a:Int} {ss:List ByteArray} {u:ByteArray}
theorem QaX(m:ByteArray)(h0:0≤a)(h1:a≤t.size)(hu:0<u.size):
    Goes t m a (Jv t a u).1 (Jv t a u).2.2 (Jv (t++m) a u).1 (Jv (t++m) a u).2.2 (Jv (t++m) a u=Jv t a u):=by
  have hs:=Qn t m
  have b:=qo (t:=t) h0 h1 hu
  have b':=qo (t:=t++m) h0 (by omega) hu
  exact ⟨b.1,b.2.1,b.2.2.1,b.2.2.2.2.1,b.2.2.2.2.2,b'.1,b'.2.1,b'.2.2.1,fun h=>jw m (.inl h),fun h=>.inl (jw m (.inr h)),vd m h0 h1⟩
theorem xV(m:ByteArray)(h0:0≤a)(h1:a≤t.size)(hp:Jq ss=true):
    Goes t m a (QU t a ss).1 (QU t a ss).2.2 (QU (t++m) a ss).1 (QU (t++m) a ss).2.2 (QU (t++m) a ss=QU t a ss):=by
  have hs:=Qn t m
  have b:=XB (t:=t) h0 h1 hp
  have b':=XB (t:=t++m) h0 (by omega) hp
  exact ⟨b.1,b.2.1,b.2.2.1,b.2.2.2.2.1,b.2.2.2.2.2,b'.1,b'.2.1,b'.2.2.1,fun h=>VI m h0 h1 hp (.inl h),fun h=>.inl (VI m h0 h1 hp (.inr h)),QaW m h0 h1 hp⟩
theorem zl{least i n:Int}(h0:0≤i)(h1:a≤i)(h2:i≤t.size):a≤(Zf t a least i n).1∧(Zf t a least i n).1≤t.size ∧
    ((Zf t a least i n).2.2=0∨(Zf t a least i n).2.2=1∨(Zf t a least i n).2.2=2)∧((Zf t a least i n).2.2=0→a<(Zf t a least i n).1) ∧
    ((Zf t a least i n).2.2=1→(Zf t a least i n).1=t.size)∧((Zf t a least i n).2.2=2→(Zf t a least i n).1<t.size):=by
  unfold Zf
  by_cases q:i>a∧n≥least
  · rw [if_pos q]
    exact ⟨by dsimp only;omega,by dsimp only;omega,.inl rfl,fun _=>by dsimp only;omega,fun h=>by dsimp only at h;omega,fun h=>by dsimp only at h;omega⟩
  · rw [if_neg q]
    by_cases q2:i=t.size
    · rw [if_pos q2]
      exact ⟨by dsimp only;omega,by dsimp only;omega,.inr (.inl rfl),fun h=>by dsimp only at h;omega,fun h=>by dsimp only;omega,fun h=>by dsimp only at h;omega⟩
    · rw [if_neg q2]
      exact ⟨by dsimp only;omega,by dsimp only;omega,.inr (.inr rfl),fun h=>by dsimp only at h;omega,fun h=>by dsimp only at h;omega,fun h=>by dsimp only;omega⟩
theorem Qaa{least most:Int}:∀ (d:Nat) (i n:Int),0≤i→a≤i→i+d=t.size→a≤(XK t a least most d i n).1∧(XK t a least most d i n).1≤t.size ∧
    ((XK t a least most d i n).2.2=0∨(XK t a least most d i n).2.2=1∨(XK t a least most d i n).2.2=2)∧((XK t a least most d i n).2.2=0→a<(XK t a least most d i n).1) ∧
    ((XK t a least most d i n).2.2=1→(XK t a least most d i n).1=t.size)∧((XK t a least most d i n).2.2=2→(XK t a least most d i n).1<t.size)
  |0,i,n,h0,h1,h2=>by
    unfold XK
    exact zl h0 h1 (by omega)
  |d+1,i,n,h0,h1,h2=>by
    rw [kY]
    by_cases hd:48≤bt t i.toNat∧bt t i.toNat≤57
    · rw [if_pos hd]
      split
      · exact ⟨h1,by dsimp only;omega,.inr (.inr rfl),fun h=>by dsimp only at h;omega,fun h=>by dsimp only at h;omega,fun h=>by dsimp only;omega⟩
      · exact Qaa d (i+1) _ (by omega) (by omega) (by omega)
    · rw [if_neg hd]
      exact zl h0 h1 (by omega)
theorem qp{least most:Int}(h0:0≤a)(h1:a≤t.size)(hl:0≤least∧least≤most∧most≤1000000):a≤(JM t a least most).1∧(JM t a least most).1≤t.size ∧
    ((JM t a least most).2.2=0∨(JM t a least most).2.2=1∨(JM t a least most).2.2=2)∧((JM t a least most).2.2=0→a<(JM t a least most).1) ∧
    ((JM t a least most).2.2=1→(JM t a least most).1=t.size)∧((JM t a least most).2.2=2→(JM t a least most).1<t.size):=by
  unfold JM
  rw [if_pos ⟨⟨h0,h1⟩,hl⟩]
  exact Qaa _ a 0 h0 (Int.le_refl _) (by omega)
theorem xW{least most:Int}(m:ByteArray)(h0:0≤a)(h1:a≤t.size)(hl:0≤least∧least≤most∧most≤1000000)(h:(JM t a least most).1=t.size):(t.size:Int)≤(JM (t++m) a least most).1:=by
  have hs:=Qn t m
  unfold JM at h ⊢
  rw [if_pos ⟨⟨h0,h1⟩,hl⟩] at h
  rw [if_pos (show (0≤a∧a≤((t++m).size:Int))∧0≤least∧least≤most∧most≤1000000 from ⟨⟨h0,by omega⟩,hl⟩)]
  rw [show (t++m).size-a.toNat=(t.size-a.toNat)+m.size by omega]
  rcases jx (t:=t) (least:=least) (most:=most) m h0 m.size (t.size-a.toNat) a 0 h0 (by omega) with ⟨n',e1,e2⟩|⟨e1,e2⟩
  · rw [e2];exact zR _ _ _
  · omega
theorem xX{least most:Int}(m:ByteArray)(h0:0≤a)(h1:a≤t.size)(hl:0≤least∧least≤most∧most≤1000000):
    Goes t m a (JM t a least most).1 (JM t a least most).2.2 (JM (t++m) a least most).1 (JM (t++m) a least most).2.2 (JM (t++m) a least most=JM t a least most):=by
  have hs:=Qn t m
  have b:=qp (t:=t) h0 h1 hl
  have b':=qp (t:=t++m) h0 (by omega) hl
  refine ⟨b.1,b.2.1,b.2.2.1,b.2.2.2.2.1,b.2.2.2.2.2,b'.1,b'.2.1,b'.2.2.1,fun h=>zQ m (by have:=b.2.2.2.2.2 h;omega) (by omega),fun h=>?_,fun h=>xW m h0 h1 hl (b.2.2.2.2.1 h)⟩
  rcases Int.lt_or_le (JM t a least most).1 t.size with q|q
  · exact .inl (zQ m q (by omega))
  · exact .inr ⟨by omega,xW m h0 h1 hl (by omega)⟩
theorem qq(t:ByteArray)(n:Nat):(n=t.size∧sqZ t n=((n:Int),0,1))∨(n≠t.size∧¬ (97≤bt t n∧bt t n≤104)∧sqZ t n=((n:Int),0,2)) ∨
    (n≠t.size∧(97≤bt t n∧bt t n≤104)∧n+1=t.size∧sqZ t n=((n:Int)+1,0,1))∨(n≠t.size∧(97≤bt t n∧bt t n≤104)∧n+1≠t.size∧¬ (49≤bt t (n+1)∧bt t (n+1)≤56)∧sqZ t n=((n:Int)+1,0,2)) ∨
    (n≠t.size∧(97≤bt t n∧bt t n≤104)∧n+1≠t.size∧(49≤bt t (n+1)∧bt t (n+1)≤56)∧sqZ t n=((n:Int)+2,8*(bt t (n+1)-49)+(bt t n-97),0)):=by
  unfold sqZ
  by_cases h1:n=t.size
  · rw [if_pos h1];exact .inl ⟨h1,rfl⟩
  · rw [if_neg h1]
    by_cases h2:97≤bt t n∧bt t n≤104
    · rw [if_pos h2]
      by_cases h3:n+1=t.size
      · rw [if_pos h3];exact .inr (.inr (.inl ⟨h1,h2,h3,rfl⟩))
      · rw [if_neg h3]
        by_cases h4:49≤bt t (n+1)∧bt t (n+1)≤56
        · rw [if_pos h4];exact .inr (.inr (.inr (.inr ⟨h1,h2,h3,h4,rfl⟩)))
        · rw [if_neg h4];exact .inr (.inr (.inr (.inl ⟨h1,h2,h3,h4,rfl⟩)))
    · rw [if_neg h2];exact .inr (.inl ⟨h1,h2,rfl⟩)
theorem ve{n:Nat}(m:ByteArray)(h1:n≤t.size)(h:(sqZ t n).2.2≠1):sqZ (t++m) n=sqZ t n:=by
  have hs:=Qn t m
  have e0:n<t.size→bt (t++m) n=bt t n:=fun h=>XP t m h
  have e1:n+1<t.size→bt (t++m) (n+1)=bt t (n+1):=fun h=>XP t m h
  rcases qq t n with ⟨p1,e⟩|⟨p1,p2,e⟩|⟨p1,p2,p3,e⟩|⟨p1,p2,p3,p4,e⟩|⟨p1,p2,p3,p4,e⟩
  · exact absurd (by rw [e]) h
  · rw [e];unfold sqZ
    rw [if_neg (by omega),e0 (by omega),if_neg p2]
  · exact absurd (by rw [e]) h
  · rw [e];unfold sqZ
    rw [if_neg (by omega),e0 (by omega),if_pos p2,if_neg (by omega),e1 (by omega),if_neg p4]
  · rw [e];unfold sqZ
    rw [if_neg (by omega),e0 (by omega),if_pos p2,if_neg (by omega),e1 (by omega),if_pos p4]
theorem Qfk{n:Nat}(h1:n≤t.size):(n:Int)≤(sqZ t n).1∧(sqZ t n).1≤t.size∧((sqZ t n).2.2=0∨(sqZ t n).2.2=1∨(sqZ t n).2.2=2)∧((sqZ t n).2.2=0→n<(sqZ t n).1)∧((sqZ t n).2.2=1→(sqZ t n).1=t.size)∧((sqZ t n).2.2=2→(sqZ t n).1<t.size):=by
  rcases qq t n with ⟨p1,e⟩|⟨p1,p2,e⟩|⟨p1,p2,p3,e⟩|⟨p1,p2,p3,p4,e⟩|⟨p1,p2,p3,p4,e⟩ <;> rw [e] <;> dsimp only
  · exact ⟨by omega,by omega,.inr (.inl rfl),fun h=>by omega,fun _=>by omega,fun h=>by omega⟩
  · exact ⟨by omega,by omega,.inr (.inr rfl),fun h=>by omega,fun h=>by omega,fun _=>by omega⟩
  · exact ⟨by omega,by omega,.inr (.inl rfl),fun h=>by omega,fun _=>by omega,fun h=>by omega⟩
  · exact ⟨by omega,by omega,.inr (.inr rfl),fun h=>by omega,fun h=>by omega,fun _=>by omega⟩
  · exact ⟨by omega,by omega,.inl rfl,fun _=>by omega,fun h=>by omega,fun h=>by omega⟩
theorem Qeg{n:Nat}(m:ByteArray)(h1:n≤t.size):Goes t m n (sqZ t n).1 (sqZ t n).2.2 (sqZ (t++m) n).1 (sqZ (t++m) n).2.2 (sqZ (t++m) n=sqZ t n):=by
  have hs:=Qn t m
  have b:=Qfk (t:=t) h1
  have b':=Qfk (t:=t++m) (n:=n) (by omega)
  refine ⟨b.1,b.2.1,b.2.2.1,b.2.2.2.2.1,b.2.2.2.2.2,b'.1,b'.2.1,b'.2.2.1,fun h=>ve m h1 (by omega),fun h=>.inl (ve m h1 (by omega)),fun h=>?_⟩
  have e0:n<t.size→bt (t++m) n=bt t n:=fun h=>XP t m h
  rcases qq t n with ⟨p1,e⟩|⟨p1,p2,e⟩|⟨p1,p2,p3,e⟩|⟨p1,p2,p3,p4,e⟩|⟨p1,p2,p3,p4,e⟩
  · omega
  · rw [e] at h;simp at h
  · rw [← e0 (by omega)] at p2
    rcases qq (t++m) n with ⟨q1,e'⟩|⟨q1,q2,e'⟩|⟨q1,q2,q3,e'⟩|⟨q1,q2,q3,q4,e'⟩|⟨q1,q2,q3,q4,e'⟩ <;> rw [e'] <;> dsimp only
    · omega
    · exact absurd p2 q2
    · omega
    · omega
    · omega
  · rw [e] at h;simp at h
  · rw [e] at h;simp at h
end
end Go.Proofs.YtaipghemddjecaaGreatDoor
