import Derived.Test.YtaipghemddjecaaGreatDoorL1wy
import Derived.Test.YtaipghemddjecaaGreatDoorL2wy
import Derived.Laws.RangeAny
namespace Go.Proofs.YtaipghemddjecaaGreatDoor
set_option maxHeartbeats 40000000
set_option maxRecDepth 100000
open Go.RowKit
set_option linter.unusedVariables false
set_option linter.unusedSimpArgs false
theorem w64{x:Int}(h0:-9223372036854775808≤x)(h1:x<9223372036854775808):wrap64 x=x:=by unfold wrap64;omega
def Xj(t:ByteArray)(a:Int)(u:ByteArray):Nat→Int→Int
  |0,n=>n
  |f+1,n=>if a+n<t.size∧bt t (a+n).toNat=bt u n.toNat then Xj t a u f (n+1) else n
def Jp(t:ByteArray)(a:Int)(u:ByteArray):Int:=Xj t a u u.size 0
theorem zG(t:ByteArray)(a:Int)(u:ByteArray):∀ f n,a+n≤t.size→n≤Xj t a u f n∧Xj t a u f n≤n+f∧a+Xj t a u f n≤t.size
  |0,n,h=>⟨Int.le_refl _,by unfold Xj;omega,h⟩
  |f+1,n,h=>by
    unfold Xj
    split
    · rename_i hc
      have:=zG t a u f (n+1) (by omega)
      omega
    · omega
theorem Ky{t:ByteArray}{a:Int}(u:ByteArray)(h:a≤t.size):0≤Jp t a u∧Jp t a u≤u.size∧a+Jp t a u≤t.size:=by
  have:=zG t a u u.size 0 (by omega)
  unfold Jp;omega
def wdE(t:ByteArray)(a:Int)(u:ByteArray)(m:Int):Int:=if m=u.size then 0 else if a+m=t.size then 1 else 2
theorem QfH(t:ByteArray)(a:Int)(u:ByteArray)(ht:t.size≤1000)(hu:u.size≤1000)(h0:0≤a):∀ (d:Nat) (n:Int) (k:Nat),0≤n→n+d=u.size→a+n≤t.size→d<k →
    QN.l0 k t a u n=some (a+Xj t a u d n,0,wdE t a u (Xj t a u d n)):=by
  intro d
  induction d with
  |zero=>
    intro n k hn hd ha hk
    obtain ⟨k,rfl⟩:∃ m,k=m+1:=⟨k-1,by omega⟩
    simp only [QN.l0]
    rw [if_neg (by omega),w64 (by omega) (by omega)]
    unfold Xj wdE
    rw [if_pos (by omega)]
    rw [show (u.size:Int)=n by omega]
  |succ d ih=>
    intro n k hn hd ha hk
    obtain ⟨k,rfl⟩:∃ m,k=m+1:=⟨k-1,by omega⟩
    simp only [QN.l0,Xj]
    rw [if_pos (by omega),w64 (x:=a+n) (by omega) (by omega)]
    by_cases h1:a+n<t.size
    · rw [if_neg (by omega),if_pos (by omega),if_pos h1,if_pos (by omega)]
      by_cases h2:bt t (a+n).toNat=bt u n.toNat
      · rw [if_pos h2,if_pos ⟨h1,h2⟩,w64 (by omega) (by omega)]
        exact ih (n+1) k (by omega) (by omega) (by omega) (by omega)
      · rw [if_neg h2,if_neg (fun h=>h2 h.2)]
        unfold wdE
        rw [if_neg (by omega),if_neg (by omega)]
    · rw [if_pos (show a+n=t.size by omega),if_neg (fun h=>h1 h.1)]
      unfold wdE
      rw [if_neg (by omega),if_pos (by omega),show (t.size:Int)=a+n by omega]
theorem qh{t:ByteArray}{a:Int}(h0:0≤a)(h1:a≤t.size):QD.f t a=some true∧True:=by
  unfold QD.f
  rw [if_pos (by omega),decide_eq_true h1];exact ⟨rfl,trivial⟩
theorem zF{t:ByteArray}{a:Int}(h:¬ (0≤a∧a≤t.size)):QD.f t a=some false∧True:=by
  unfold QD.f
  by_cases h0:a≥0
  · rw [if_pos h0,decide_eq_false (by omega)];exact ⟨rfl,trivial⟩
  · rw [if_neg h0];exact ⟨rfl,trivial⟩
def Jv(t:ByteArray)(a:Int)(u:ByteArray):Int×Int×Int:=if 0≤a∧a≤t.size then (a+Jp t a u,0,wdE t a u (Jp t a u)) else (0,0,5)
theorem jb{t:ByteArray}{a:Int}{u:ByteArray}(ht:t.size≤1000)(hu:u.size≤1000){k:Nat}(hk:u.size<k):QN.f k t a u=some (Jv t a u):=by
  unfold QN.f Jv
  by_cases h:0≤a∧a≤t.size
  · rw [(qh h.1 h.2).1,if_pos h]
    simp only [Option.bind_some,if_true]
    exact QfH t a u ht hu h.1 u.size 0 k (Int.le_refl _) (by omega) (by omega) hk
  · rw [(zF h).1,if_neg h];rfl
def zD(t h:ByteArray):Bool:=decide (h.size≤t.size)&&((t.extract 0 h.size).toList==h.toList)
theorem QaD(t h:ByteArray):JJ.f t h=some (zD t h):=by
  unfold JJ.f JA.f zD
  by_cases h1:h.size≤t.size
  · rw [if_pos (by omega),if_pos (by omega),if_pos (by omega),decide_eq_true h1];(try rw [Int.toNat_natCast]);rfl
  · rw [if_neg (by omega),decide_eq_false h1];rfl
def wd(ss:List ByteArray)(i:Nat):ByteArray:=nt ss i ByteArray.empty
def VW(ss:List ByteArray)(i k:Nat):Bool:=(wd ss i).toList.isEmpty||(decide (i≠k)&&zD (wd ss k) (wd ss i))
def Jq(ss:List ByteArray):Bool:=decide (0<ss.length)&&((List.range ss.length).all fun i=>(List.range ss.length).all fun k=>!VW ss i k)
theorem jl{ss:List ByteArray}(i k:Nat)(hi:i<ss.length)(hk:k<ss.length)(h:VW ss i k=true):Jq ss=false:=by
  cases hb:Jq ss with
  |false=>rfl
  |true=>
    unfold Jq at hb
    rw [Bool.and_eq_true,List.all_eq_true] at hb
    have:=hb.2 i (List.mem_range.2 hi)
    rw [List.all_eq_true] at this
    have:=this k (List.mem_range.2 hk)
    rw [h] at this
    cases this
theorem jY{ss:List ByteArray}(h:∀ i,i<ss.length → ∀ k,k<ss.length→VW ss i k=false):Jq ss=decide (0<ss.length):=by
  unfold Jq
  rw [show ((List.range ss.length).all fun i=>(List.range ss.length).all fun k=>!VW ss i k)=true from by
    rw [List.all_eq_true]
    intro i hi
    rw [List.all_eq_true]
    intro k hk
    rw [h i (List.mem_range.1 hi) k (List.mem_range.1 hk)]
    rfl]
  simp
theorem jk{ss:List ByteArray}(h:Jq ss=true){i k:Nat}(hi:i<ss.length)(hk:k<ss.length):VW ss i k=false:=by
  cases hb:VW ss i k with
  |false=>rfl
  |true=>rw [jl i k hi hk hb] at h;cases h
theorem Qgx(ss:List ByteArray):decide ((ss.length:Int)>0)=decide (0<ss.length):=by
  by_cases h:0<ss.length
  · rw [decide_eq_true h,decide_eq_true (by omega)]
  · rw [decide_eq_false h,decide_eq_false (by omega)]
theorem xA{ss:List ByteArray}{i k:Nat}(h:∀ q,q<k→VW ss i q=false)(h1:VW ss i k=false):∀ q,q<k+1→VW ss i q=false:=fun q hq=>by
  rcases (show q<k∨q=k by omega) with h'|rfl
  · exact h q h'
  · exact h1
theorem QdV(ss:List ByteArray)(hn:ss.length≤1000):∀ M:Nat,
    (∀ (i k:Nat),i≤ss.length→(ss.length-i)*(ss.length+2)≤M→M<k→(∀ j,j<i → ∀ q,q<ss.length→VW ss j q=false)→QM.l0 k ss i=some (Jq ss)) ∧
    (∀ (i x k:Nat),i<ss.length→x≤ss.length→(ss.length-(i+1))*(ss.length+2)+(ss.length-x)+1≤M→M<k→(∀ j,j<i → ∀ q,q<ss.length→VW ss j q=false)→(∀ q,q<x→VW ss i q=false)→QM.l1 k ss i x=some (Jq ss)):=by
  intro M
  induction M with
  |zero=>
    refine ⟨fun i k hi hM hk hp=>?_,fun i x k hi hx hM=>by omega⟩
    obtain ⟨k,rfl⟩:∃ m,k=m+1:=⟨k-1,by omega⟩
    have:i=ss.length:=by
      have:ss.length-i=0:=by
        rcases Nat.mul_eq_zero.1 (Nat.le_zero.1 hM) with h|h <;> omega
      omega
    subst this
    simp only [QM.l0]
    rw [if_neg (by omega),jY hp,Qgx]
  |succ M ih=>
    refine ⟨fun i k hi hM hk hp=>?_,fun i x k hi hx hM hk hp hq=>?_⟩
    · obtain ⟨k,rfl⟩:∃ m,k=m+1:=⟨k-1,by omega⟩
      simp only [QM.l0]
      by_cases h:i<ss.length
      · rw [if_pos (by omega),if_pos (by omega)]
        refine ih.2 i 0 k h (by omega) ?_ (by omega) hp (fun q hq=>by omega)
        rw [show ss.length-i=(ss.length-(i+1))+1 by omega,Nat.succ_mul] at hM
        omega
      · have:i=ss.length:=by omega
        subst this
        rw [if_neg (by omega),jY hp,Qgx]
    · obtain ⟨k,rfl⟩:∃ m,k=m+1:=⟨k-1,by omega⟩
      simp only [QM.l1]
      by_cases h:x<ss.length
      · rw [if_pos (by omega),if_pos (by omega),Int.toNat_natCast,Int.toNat_natCast]
        have hb:VW ss i x=((wd ss i).toList.isEmpty||(decide (i≠x)&&zD (wd ss x) (wd ss i))):=rfl
        by_cases h1:(nt ss i ByteArray.empty).toList=[]
        · rw [if_pos h1]
          rw [jl i x hi h (by rw [hb];unfold wd;rw [h1];rfl)]
        · rw [if_neg h1]
          have h1':(wd ss i).toList.isEmpty=false:=by unfold wd;simpa using h1
          rw [h1',Bool.false_or] at hb
          rw [w64 (by omega) (by omega)]
          by_cases h2:i=x
          · rw [if_pos (by omega)]
            exact ih.2 i (x+1) k hi (by omega) (by omega) (by omega) hp (xA hq (by rw [hb,decide_eq_false (by omega)];rfl))
          · rw [if_neg (by omega),QaD]
            rw [decide_eq_true h2,Bool.true_and] at hb
            change (if zD (wd ss x) (wd ss i)=true then _ else _)=_
            cases hB:zD (wd ss x) (wd ss i) with
            |true=>rw [if_pos rfl,jl i x hi h (hb.trans hB)]
            |false=>
              rw [if_neg (by decide)]
              exact ih.2 i (x+1) k hi (by omega) (by omega) (by omega) hp (xA hq (hb.trans hB))
      · have:x=ss.length:=by omega
        subst this
        rw [if_neg (by omega),w64 (by omega) (by omega)]
        refine ih.1 (i+1) k (by omega) (by omega) (by omega) (fun j hj q hql=>?_)
        rcases (show j<i∨j=i by omega) with h'|rfl
        · exact hp j h' q hql
        · exact hq q hql
theorem Qgy{n:Nat}(h:n≤100):n*(n+2)≤10200:=Nat.le_trans (Nat.mul_le_mul h (show n+2≤102 by omega)) (by decide)
theorem QbT{ss:List ByteArray}(hn:ss.length≤100){k:Nat}(hk:10200<k):QM.f k ss=some (Jq ss)∧True:=by
  have:=Qgy hn
  exact ⟨(QdV ss (by omega) 10200).1 0 k (by omega) (by omega) hk (fun j hj=>by omega),trivial⟩
def JN(t:ByteArray)(a:Int)(ss:List ByteArray):Nat→Int
  |0=>0
  |k+1=>max (JN t a ss k) (Jp t a (wd ss k))
theorem Va{t:ByteArray}{a:Int}(ss:List ByteArray)(ha:a≤t.size):∀ k,0≤JN t a ss k∧a+JN t a ss k≤t.size
  |0=>by unfold JN;omega
  |k+1=>by
    have h1:=Va ss ha k
    have h2:=Ky (wd ss k) ha
    unfold JN
    omega
def KR(t:ByteArray)(a:Int)(ss:List ByteArray)(k:Nat):Int:=if 0<k∧a+JN t a ss k=t.size then 1 else 2
def Vb(t:ByteArray)(a:Int)(ss:List ByteArray):Nat→Nat→Int×Int×Int
  |0,k=>(a+JN t a ss k,0,KR t a ss k)
  |f+1,k=>if Jp t a (wd ss k)=(wd ss k).size then (a+Jp t a (wd ss k),(k:Int),0) else Vb t a ss f (k+1)
theorem Qgz(t:ByteArray)(a:Int)(ss:List ByteArray)(ht:t.size≤1000)(hn:ss.length≤100)(hs:∀ i,i<ss.length→(wd ss i).size≤1000)(h0:0≤a)(ha:a≤t.size):∀ (d i k:Nat),i+d=ss.length→d+1001<k →
    QR.l0 k t a ss i (a+JN t a ss i) 0 (KR t a ss i)=some (Vb t a ss d i):=by
  intro d
  induction d with
  |zero=>
    intro i k hd hk
    obtain ⟨k,rfl⟩:∃ m,k=m+1:=⟨k-1,by omega⟩
    simp only [QR.l0,Vb]
    rw [if_neg (by omega)]
  |succ d ih=>
    intro i k hd hk
    obtain ⟨k,rfl⟩:∃ m,k=m+1:=⟨k-1,by omega⟩
    simp only [QR.l0,Vb]
    have hi:i<ss.length:=by omega
    rw [if_pos (by omega),if_pos (by omega),Int.toNat_natCast,show nt ss i ByteArray.empty=wd ss i from rfl,jb ht (hs i hi) (by have:=hs i hi;omega)]
    have e:Jv t a (wd ss i)=(a+Jp t a (wd ss i),0,wdE t a (wd ss i) (Jp t a (wd ss i))):=by unfold Jv;rw [if_pos ⟨h0,ha⟩]
    rw [e]
    simp only [Option.bind_some]
    have hf:=Ky (wd ss i) ha
    have hm:=Va ss ha i
    have hw:wrap64 ((i:Int)+1)=((i+1:Nat):Int):=by rw [w64 (by omega) (by omega)];omega
    rw [hw]
    have ih':=ih (i+1) k (by omega) (by omega)
    have hnx:JN t a ss (i+1)=max (JN t a ss i) (Jp t a (wd ss i)):=rfl
    have m0:i=0→JN t a ss i=0:=fun h=>by rw [h];rfl
    by_cases h1:Jp t a (wd ss i)=(wd ss i).size
    · rw [if_pos h1,show wdE t a (wd ss i) (Jp t a (wd ss i))=0 by unfold wdE;rw [if_pos h1],if_pos rfl]
    · rw [if_neg h1]
      by_cases h2:a+Jp t a (wd ss i)=t.size
      · have ew:wdE t a (wd ss i) (Jp t a (wd ss i))=1:=by unfold wdE;rw [if_neg h1,if_pos h2]
        have en:KR t a ss (i+1)=1:=by unfold KR;rw [if_pos ⟨by omega,by omega⟩]
        rw [en,show a+JN t a ss (i+1)=a+Jp t a (wd ss i) by omega] at ih'
        rw [ew,if_neg (by decide)]
        split
        · exact ih'
        · rw [if_pos rfl];exact ih'
      · have ew:wdE t a (wd ss i) (Jp t a (wd ss i))=2:=by unfold wdE;rw [if_neg h1,if_neg h2]
        rw [ew,if_neg (by decide),if_neg (show ¬ ((2:Int)=1) by decide)]
        by_cases h3:a+Jp t a (wd ss i)>a+JN t a ss i
        · rw [if_pos h3]
          have en:KR t a ss (i+1)=2:=by unfold KR;rw [if_neg (by omega)]
          rw [en,show a+JN t a ss (i+1)=a+Jp t a (wd ss i) by omega] at ih'
          exact ih'
        · rw [if_neg h3]
          have e3:JN t a ss (i+1)=JN t a ss i:=by omega
          have en:KR t a ss (i+1)=KR t a ss i:=by
            unfold KR
            rw [e3]
            by_cases h4:a+JN t a ss i=t.size
            · rw [if_pos ⟨by omega,h4⟩,if_pos ⟨by omega,h4⟩]
            · rw [if_neg (fun h=>h4 h.2),if_neg (fun h=>h4 h.2)]
          rw [en,e3] at ih'
          exact ih'
def QU(t:ByteArray)(a:Int)(ss:List ByteArray):Int×Int×Int:=if (0≤a∧a≤t.size)∧Jq ss=true then Vb t a ss ss.length 0 else (0,0,5)
theorem QbU{t:ByteArray}{a:Int}{ss:List ByteArray}(ht:t.size≤1000)(hn:ss.length≤100)(hs:∀ i,i<ss.length→(wd ss i).size≤1000){k:Nat}(hk:20000<k):QR.f k t a ss=some (QU t a ss)∧True:=by
  unfold QR.f QU
  by_cases h:0≤a∧a≤t.size
  · rw [(qh h.1 h.2).1]
    obtain ⟨A,B⟩:=QbT (ss:=ss) hn (k:=k) (by omega)
    simp only [Option.bind_some,if_true,A]
    cases hp:Jq ss with
    |true=>
      rw [if_pos rfl,if_pos ⟨h,rfl⟩]
      have L:=Qgz t a ss ht hn hs h.1 h.2 ss.length 0 k (by omega) (by omega)
      rw [show a+JN t a ss 0=a from Int.add_zero _,show KR t a ss 0=2 from rfl] at L
      exact ⟨L,trivial⟩
    |false=>
      rw [if_neg (show ¬ (false=true) by decide),if_neg (show ¬ ((0≤a∧a≤(t.size:Int))∧false=true) from fun h'=>absurd h'.2 (by decide))]
      exact ⟨rfl,trivial⟩
  · rw [(zF h).1,if_neg (fun h'=>h h'.1)]
    exact ⟨rfl,trivial⟩
set_option maxHeartbeats 40000000
set_option maxRecDepth 100000
open Go.RowKit
set_option linter.unusedVariables false
set_option linter.unusedSimpArgs false
theorem w32{x:Int}(h0:-2147483648≤x)(h1:x<2147483648):wrap32 x=x:=by unfold wrap32;omega
def Zf(t:ByteArray)(a least i n:Int):Int×Int×Int:=if i>a∧n≥least then (i,n,0) else if i=t.size then (i,0,1) else (i,0,2)
theorem vK(t:ByteArray)(a least i n:Int):(if i>a then (if n≥least then some (i,n,(0:Int)) else (if i=(t.size:Int) then some (i,0,1) else some (i,0,2))) else (if i=(t.size:Int) then some (i,0,1) else some (i,0,2)))=some (Zf t a least i n):=by
  unfold Zf
  by_cases h1:i>a
  · rw [if_pos h1]
    by_cases h2:n≥least
    · rw [if_pos h2,if_pos ⟨h1,h2⟩]
    · rw [if_neg h2,if_neg (show ¬ (i>a∧n≥least) from fun h=>h2 h.2)];split <;> rfl
  · rw [if_neg h1,if_neg (show ¬ (i>a∧n≥least) from fun h=>h1 h.1)];split <;> rfl
def XK(t:ByteArray)(a least most:Int):Nat→Int→Int→Int×Int×Int
  |0,i,n=>Zf t a least i n
  |d+1,i,n=>if 48≤bt t i.toNat∧bt t i.toNat≤57 then
      (if (i>a∧n=0)∨(i=a∧10*n+(bt t i.toNat-48)=0∧least>0)∨10*n+(bt t i.toNat-48)>most then (i,0,2) else XK t a least most d (i+1) (10*n+(bt t i.toNat-48)))
      else Zf t a least i n
theorem KE(t:ByteArray)(a:Nat):(t.extract a t.size).size=t.size-a:=by simp
theorem zE(t:ByteArray)(a p:Nat)(h:a+p<t.size):bt (t.extract a t.size) p=bt t (a+p):=by
  have e:(t.extract a t.size).data.toList=(t.data.toList.take t.size).drop a:=by
    simp [ByteArray.data_extract,List.drop_take]
  have e2:t.data.toList.take t.size=t.data.toList:=List.take_of_length_le (by simp)
  unfold bt
  rw [e,e2,List.getD_eq_getElem?_getD,List.getElem?_drop,List.getD_eq_getElem?_getD]
theorem Vo(s:ByteArray)(p:Nat)(h:p<s.size)(hb:bt s p<128):((Utf8.decode s p).1:Int)=bt s p∧(Utf8.decode s p).2=1:=by
  have e:=kF s p h
  have d:=decode_ascii s p h (by omega)
  rw [d]
  exact ⟨by omega,rfl⟩
theorem ji(s:ByteArray)(p:Nat)(h:p<s.size)(hb:128≤bt s p):128≤((Utf8.decode s p).1:Int):=by
  have e:=kF s p h
  have d:=(decode_high s p h (by omega)).1
  omega
theorem Qgw(t:ByteArray)(a:Nat)(least most:Int)(ht:t.size≤1000)(ha:a≤t.size)(hl:0≤least)(hm:most≤1000000):∀ (d p:Nat) (n:Int) (k:Nat),a+p+d=t.size→d<k→0≤n→n≤1000000 →
    Qw.l0 k t a least most n (t.size:Int) p=some (XK t a least most d ((a:Int)+p) n):=by
  intro d
  induction d with
  |zero=>
    intro p n k hd hk hn hn2
    obtain ⟨k,rfl⟩:∃ m,k=m+1:=⟨k-1,by omega⟩
    simp only [Qw.l0,XK]
    rw [Int.toNat_natCast,if_neg (by rw [KE];omega)]
    rw [show (a:Int)+p=(t.size:Int) by omega]
    have F:=vK t a least t.size n
    simpa using F
  |succ d ih=>
    intro p n k hd hk hn hn2
    obtain ⟨k,rfl⟩:∃ m,k=m+1:=⟨k-1,by omega⟩
    have hp:p<(t.extract a t.size).size:=by rw [KE];omega
    have be:=zE t a p (by omega)
    have b0:=xu t (a+p)
    have b1:=QbB t (a+p)
    have dl:=Vo (t.extract a t.size) p hp
    have dh:=ji (t.extract a t.size) p hp
    rw [be] at dl dh
    have fin:=vK t a least ((a:Int)+p) n
    simp only [Qw.l0,XK]
    rw [Int.toNat_natCast,if_pos hp,show ((a:Int)+p).toNat=a+p by omega]
    have ih':=fun m h1 h2=>ih (p+1) m k (by omega) (by omega) h1 h2
    rw [show (a:Int)+((p+1:Nat):Int)=(a:Int)+p+1 by omega] at ih'
    rw [w64 (x:=(a:Int)+p) (by omega) (by omega)]
    generalize bt t (a+p)=c at *
    by_cases hc:c<128
    · obtain ⟨e1,e2⟩:=dl hc
      rw [e1,e2]
      by_cases h1:c<48
      · rw [if_pos h1,if_neg (show ¬ (48≤c∧c≤57) by omega)];exact fin
      · rw [if_neg h1]
        by_cases h2:c>57
        · rw [if_pos h2,if_neg (show ¬ (48≤c∧c≤57) by omega)];exact fin
        · rw [if_neg h2,if_pos (show 48≤c∧c≤57 by omega)]
          have e:wrap64 (wrap64 (10*n)+wrap64 (wrap32 (c-48)))=10*n+(c-48):=by rw [w32 (by omega) (by omega),w64 (x:=10*n) (by omega) (by omega),w64 (x:=c-48) (by omega) (by omega),w64 (by omega) (by omega)]
          rw [e]
          by_cases hbad:((a:Int)+p>a∧n=0)∨((a:Int)+p=a∧10*n+(c-48)=0∧least>0)∨10*n+(c-48)>most
          · rw [if_pos hbad]
            (repeat' split) <;> first|rfl|omega
          · rw [if_neg hbad]
            have I:=ih' (10*n+(c-48)) (by omega) (by omega)
            (repeat' split) <;> first|exact I|omega
    · have h128:=dh (by omega)
      rw [if_neg (by omega),if_pos (by omega),if_neg (show ¬ (48≤c∧c≤57) by omega)];exact fin
def JM(t:ByteArray)(a least most:Int):Int×Int×Int:=if (0≤a∧a≤t.size)∧0≤least∧least≤most∧most≤1000000 then XK t a least most (t.size-a.toNat) a 0 else (0,0,5)
theorem kJ{t:ByteArray}{a least most:Int}(ht:t.size≤1000){k:Nat}(hk:t.size<k):Qw.f k t a least most=some (JM t a least most)∧True:=by
  unfold Qw.f JM
  by_cases h:0≤a∧a≤t.size
  · rw [(qh h.1 h.2).1]
    simp only [Option.bind_some,if_true]
    by_cases h1:least<0
    · rw [if_pos h1,if_neg (by omega)];exact ⟨rfl,trivial⟩
    · rw [if_neg h1]
      by_cases h2:least>most
      · rw [if_pos h2,if_neg (by omega)];exact ⟨rfl,trivial⟩
      · rw [if_neg h2]
        by_cases h3:most>1000000
        · rw [if_pos h3,if_neg (by omega)];exact ⟨rfl,trivial⟩
        · rw [if_neg h3,if_pos h.1,if_pos h.2,if_pos ⟨h,by omega,by omega,by omega⟩]
          obtain ⟨b,rfl⟩:∃ b:Nat,a=b:=⟨a.toNat,by omega⟩
          have L:=Qgw t b least most ht (by omega) (by omega) (by omega) (t.size-b) 0 0 k (by omega) (by omega) (by omega) (by omega)
          rw [show (b:Int)+((0:Nat):Int)=(b:Int) by omega] at L
          rw [Int.toNat_natCast]
          exact ⟨L,trivial⟩
  · rw [(zF h).1,if_neg (show ¬ ((0≤a∧a≤(t.size:Int))∧0≤least∧least≤most∧most≤1000000) from fun h'=>h h'.1)];exact ⟨rfl,trivial⟩
set_option maxHeartbeats 40000000
set_option maxRecDepth 100000
open Go.RowKit
set_option linter.unusedVariables false
set_option linter.unusedSimpArgs false
theorem vI(t u:ByteArray):∀ (f:Nat) (n:Int),0≤n → ∀ i:Nat,n≤i→(i:Int)<Xj t 0 u f n→bt t i=bt u i
  |0,n,h0,i,h1,h2=>by unfold Xj at h2;omega
  |f+1,n,h0,i,h1,h2=>by
    unfold Xj at h2
    split at h2
    · rename_i hc
      by_cases e:(i:Int)=n
      · have:=hc.2;rw [show ((0:Int)+n).toNat=i by omega,show n.toNat=i by omega] at this;exact this
      · exact vI t u f (n+1) (by omega) i (by omega) h2
    · omega
theorem vJ(t u:ByteArray):∀ (f:Nat) (n:Int),0≤n→n+f=u.size→Xj t 0 u f n<u.size→Xj t 0 u f n<t.size→bt t (Xj t 0 u f n).toNat≠bt u (Xj t 0 u f n).toNat
  |0,n,h0,hf,h1,h2=>by unfold Xj at h1;omega
  |f+1,n,h0,hf,h1,h2=>by
    unfold Xj at h1 h2 ⊢
    split
    · rename_i hc
      rw [if_pos hc] at h1 h2
      exact vJ t u f (n+1) (by omega) (by omega) h1 h2
    · rename_i hc
      rw [if_neg hc] at h1 h2
      intro e
      exact hc ⟨by omega,by rw [show (0:Int)+n=n by omega];exact e⟩
theorem QbO(t u:ByteArray){i:Nat}(h:(i:Int)<Jp t 0 u):bt t i=bt u i:=vI t u u.size 0 (by omega) i (by omega) h
theorem QbP(t u:ByteArray)(h1:Jp t 0 u<u.size)(h2:Jp t 0 u<t.size):bt t (Jp t 0 u).toNat≠bt u (Jp t 0 u).toNat:=vJ t u u.size 0 (by omega) (by omega) h1 h2
theorem QbQ(t u:ByteArray):0≤Jp t 0 u∧Jp t 0 u≤u.size∧Jp t 0 u≤t.size:=by
  have:=Ky (t:=t) (a:=0) u (by omega);omega
theorem xx(t u:ByteArray)(m:Nat)(h1:m≤u.size)(h2:m≤t.size)(he:∀ i:Nat,i<m→bt t i=bt u i)(hn:m<u.size→m<t.size→bt t m≠bt u m):Jp t 0 u=m:=by
  have b:=QbQ t u
  rcases (show Jp t 0 u<m∨Jp t 0 u=m∨(m:Int)<Jp t 0 u by omega) with h|h|h
  · exact absurd (he (Jp t 0 u).toNat (by omega)) (QbP t u (by omega) (by omega))
  · exact h
  · exact absurd (QbO t u h) (hn (by omega) (by omega))
theorem XP(t m:ByteArray){i:Nat}(h:i<t.size):bt (t++m) i=bt t i:=by
  have h':i<t.data.toList.length:=by simpa using h
  unfold bt
  rw [show (t++m).data.toList=t.data.toList++m.data.toList by simp]
  rw [List.getD_eq_getElem?_getD,List.getD_eq_getElem?_getD,List.getElem?_append_left h']
theorem Qn(t m:ByteArray):(t++m).size=t.size+m.size:=by simp
theorem QdT{t u:ByteArray}(m:ByteArray)(h:Jp t 0 u<t.size∨Jp t 0 u=u.size):Jp (t++m) 0 u=Jp t 0 u:=by
  have b:=QbQ t u
  have r:=xx (t++m) u (Jp t 0 u).toNat (by omega) (by rw [Qn];omega) (fun i hi=>by rw [XP t m (by omega)];exact QbO t u (by omega)) (fun h1 h2=>by
    rcases h with h|h
    · rw [XP t m (by omega)];exact QbP t u (by omega) h
    · omega)
  rw [r];omega
theorem QdU{t h:ByteArray}(hs:t.size=h.size)(he:∀ i:Nat,i<t.size→bt t i=bt h i):t.data.toList=h.data.toList:=by
  apply List.ext_getElem (by simpa using hs)
  intro i h1 h2
  have:=he i (by simpa using h1)
  unfold bt at this
  rw [List.getD_eq_getElem?_getD,List.getD_eq_getElem?_getD,List.getElem?_eq_getElem h1,List.getElem?_eq_getElem h2] at this
  simp only [Option.getD_some] at this
  exact UInt8.toNat_inj.1 (by omega)
theorem xy(t:ByteArray)(n:Nat):(t.extract 0 n).data.toList=t.data.toList.take n:=by
  simp [ByteArray.data_extract]
theorem QbR(t:ByteArray){n i:Nat}(h:i<n):bt (t.extract 0 n) i=bt t i:=by
  unfold bt
  rw [xy,List.getD_eq_getElem?_getD,List.getD_eq_getElem?_getD,List.getElem?_take,if_pos h]
theorem QbS{t h:ByteArray}(hs:h.size≤t.size):(t.extract 0 h.size).toList=h.toList ↔ ∀ i:Nat,i<h.size→bt t i=bt h i:=by
  rw [ByteArray.toList_eq,ByteArray.toList_eq]
  constructor
  · intro e i hi
    rw [← QbR t hi]
    unfold bt
    rw [e]
  · intro e
    refine QdU (t:=t.extract 0 h.size) (h:=h) (by simp;omega) (fun i hi=>?_)
    have hi':i<h.size:=by simp at hi;omega
    rw [QbR t hi'];exact e i hi'
theorem QfG{t h:ByteArray}:zD t h=true↔h.size≤t.size ∧ ∀ i:Nat,i<h.size→bt t i=bt h i:=by
  unfold zD
  rw [Bool.and_eq_true,decide_eq_true_eq,beq_iff_eq]
  constructor
  · rintro ⟨h1,h2⟩;exact ⟨h1,(QbS h1).1 h2⟩
  · rintro ⟨h1,h2⟩;exact ⟨h1,(QbS h1).2 h2⟩
theorem jX(p:Nat→Prop) [DecidablePred p]:∀ n:Nat,(∃ k,k<n∧p k ∧ ∀ j,j<k→¬ p j) ∨ ∀ j,j<n→¬ p j
  |0=>.inr fun j hj=>by omega
  |n+1=>by
    rcases jX p n with ⟨k,h1,h2,h3⟩|h
    · exact .inl ⟨k,by omega,h2,h3⟩
    · by_cases hp:p n
      · exact .inl ⟨n,by omega,hp,h⟩
      · refine .inr fun j hj=>?_
        rcases (show j<n∨j=n by omega) with h'|rfl
        · exact h j h'
        · exact hp
theorem qB{ss:List ByteArray}(hp:Jq ss=true):0<ss.length:=by
  unfold Jq at hp
  rw [Bool.and_eq_true] at hp
  exact of_decide_eq_true hp.1
theorem kI{ss:List ByteArray}(hp:Jq ss=true){i:Nat}(hi:i<ss.length):0<(wd ss i).size:=by
  have A:=jk hp hi hi
  unfold VW at A
  rw [Bool.or_eq_false_iff] at A
  have:=A.1
  rcases Nat.eq_zero_or_pos (wd ss i).size with h|h
  · exfalso
    rw [ByteArray.toList_eq] at this
    have e:(wd ss i).data.toList=[]:=List.eq_nil_of_length_eq_zero (by simpa using h)
    rw [e] at this;cases this
  · exact h
theorem xz(u:ByteArray):Jp u 0 u=u.size:=xx u u u.size (Nat.le_refl _) (Nat.le_refl _) (fun _ _=>rfl) (fun h=>by omega)
end Go.Proofs.YtaipghemddjecaaGreatDoor
