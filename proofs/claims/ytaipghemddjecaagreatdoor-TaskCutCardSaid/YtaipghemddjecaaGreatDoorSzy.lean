import Derived.Test.YtaipghemddjecaaGreatDoorLvy
import Derived.Test.YtaipghemddjecaaGreatDoorS1wy
namespace Go.Proofs.YtaipghemddjecaaGreatDoor
set_option maxHeartbeats 40000000
set_option maxRecDepth 100000
open Go.RowKit
set_option linter.unusedVariables false
set_option linter.unusedSimpArgs false
theorem jv{t u:ByteArray}{a:Int}(m:ByteArray)(h0:0≤a):∀ (f:Nat) (n:Int),0≤n→a+n≤t.size→(a+Xj t a u f n<t.size∨Xj t a u f n=n+f)→Xj (t++m) a u f n=Xj t a u f n
  |0,n,_,_,_=>rfl
  |f+1,n,h1,h2,h3=>by
    unfold Xj at h3 ⊢
    by_cases hc:a+n<t.size∧bt t (a+n).toNat=bt u n.toNat
    · rw [if_pos hc] at h3 ⊢
      rw [if_pos ⟨by rw [Qn];omega,by rw [XP t m (by omega)];exact hc.2⟩]
      exact jv m h0 f (n+1) (by omega) (by omega) (by omega)
    · rw [if_neg hc] at h3 ⊢
      rw [if_neg]
      rintro ⟨_,h5⟩
      rw [XP t m (by omega)] at h5
      exact hc ⟨by omega,h5⟩
theorem jw{t u:ByteArray}{a:Int}(m:ByteArray)(h:(Jv t a u).2.2=2∨(Jv t a u).2.2=0):Jv (t++m) a u=Jv t a u:=by
  unfold Jv at h ⊢
  by_cases ha:0≤a∧a≤t.size
  · have b:=Ky (t:=t) (a:=a) u ha.2
    rw [if_pos ha] at h ⊢
    rw [if_pos ⟨ha.1,by rw [Qn];omega⟩]
    have e:Jp (t++m) a u=Jp t a u:=by
      refine jv m ha.1 u.size 0 (by omega) (by omega) ?_
      rw [show Xj t a u u.size 0=Jp t a u from rfl]
      simp only [wdE] at h
      rcases h with h|h
      · split at h
        · omega
        · split at h
          · omega
          · left;omega
      · split at h
        · right;omega
        · split at h <;> omega
    rw [e]
    congr 2
    simp only [wdE] at h ⊢
    rw [Qn]
    (repeat' split) <;> first|rfl|omega
  · rw [if_neg ha] at h;simp at h
theorem kY(t : ByteArray)(a least most : Int)(d : Nat)(i n : Int) : XK t a least most (d + 1) i n = if 48 ≤ bt t i.toNat ∧ bt t i.toNat ≤ 57 then
      (if (i>a∧n=0)∨(i=a∧10*n+(bt t i.toNat-48)=0∧least>0)∨10*n+(bt t i.toNat-48)>most then (i,0,2) else XK t a least most d (i+1) (10*n+(bt t i.toNat-48)))
      else Zf t a least i n:=rfl
theorem jx{t:ByteArray}{a least most:Int}(m:ByteArray)(h0:0≤a)(e:Nat):∀ (d:Nat) (i n:Int),0≤i→i+d=t.size →
    (∃ n',XK t a least most d i n=Zf t a least t.size n'∧XK (t++m) a least most (d+e) i n=XK (t++m) a least most e t.size n') ∨
    ((XK t a least most d i n).1<t.size∧XK (t++m) a least most (d+e) i n=XK t a least most d i n)
  |0,i,n,h1,h2=>.inl ⟨n,by unfold XK;rw [show i=(t.size:Int) by omega],by rw [Nat.zero_add,show i=(t.size:Int) by omega]⟩
  |d+1,i,n,h1,h2=>by
    have hb:bt (t++m) i.toNat=bt t i.toNat:=XP t m (by omega)
    rw [show d+1+e=(d+e)+1 by omega,kY,kY,hb]
    by_cases hd:48≤bt t i.toNat∧bt t i.toNat≤57
    · rw [if_pos hd,if_pos hd]
      split
      · exact .inr ⟨by show i<(t.size:Int);omega,rfl⟩
      · exact jx (t:=t) m h0 e d (i+1) _ (by omega) (by omega)
    · rw [if_neg hd,if_neg hd]
      refine .inr ⟨?_,?_⟩
      · unfold Zf;(repeat' split) <;> (show i<(t.size:Int);omega)
      · unfold Zf;rw [Qn];(repeat' split) <;> first|rfl|omega
theorem zQ{t:ByteArray}{a least most:Int}(m:ByteArray)(h:(JM t a least most).1<t.size)(h5:(JM t a least most).2.2≠5):JM (t++m) a least most=JM t a least most:=by
  unfold JM at h h5 ⊢
  by_cases hc:(0≤a∧a≤(t.size:Int))∧0≤least∧least≤most∧most≤1000000
  · rw [if_pos hc] at h ⊢
    rw [if_pos (show (0≤a∧a≤((t++m).size:Int))∧0≤least∧least≤most∧most≤1000000 from ⟨⟨hc.1.1,by have:=Qn t m;omega⟩,hc.2⟩)]
    have hs:=Qn t m
    rw [show (t++m).size-a.toNat=(t.size-a.toNat)+m.size by omega]
    rcases jx (t:=t) (least:=least) (most:=most) m hc.1.1 m.size (t.size-a.toNat) a 0 hc.1.1 (by omega) with ⟨n',h1,h2⟩|⟨h1,h2⟩
    · rw [h1] at h;unfold Zf at h;(repeat' split at h) <;> simp at h
    · exact h2
  · rw [if_neg hc] at h5;simp at h5
def Zq:List ByteArray:=[⟨#[35]⟩,⟨#[61]⟩,⟨#[115,35]⟩,⟨#[115,61]⟩,⟨#[114,35]⟩,⟨#[114,61]⟩,⟨#[115,101,109,105,45,114,35]⟩,⟨#[115,101,109,105,45,114,61]⟩,⟨#[104,35]⟩,⟨#[104,61]⟩,⟨#[115,101,114,45,104,35]⟩,⟨#[115,101,114,45,104,61]⟩,⟨#[115,101,114,45,35]⟩,⟨#[115,101,114,45,61]⟩,⟨#[100,105,97,32]⟩]
def VH:List (Int×Int×Int×Bool):=[(1,1,0,false),(1,2,0,false),(2,1,0,false),(2,2,0,false),(3,1,0,false),(3,2,0,false),(4,1,0,false),(4,2,0,false),(5,1,0,false),(5,2,0,false),(6,1,0,false),(6,2,0,false),(7,1,0,false),(7,2,0,false),(8,0,0,false)]
theorem QaO:QO.f 30000=some (Zq,VH):=by decide +kernel
theorem Kq:Jq Zq=true:=by decide +kernel
theorem kZ:∀ i,i<Zq.length→(wd Zq i).size≤1000:=by decide
def Xi:ByteArray:=⟨#[46,53]⟩
abbrev vU:=Int×Int×Int×Bool×Int×Int×Int
def jy(t:ByteArray)(x:Int×Int×Int):vU:=
  if x.2.2=0 then
    let s:=nt VH x.2.1.toNat (0,0,0,false)
    if s.1=5 then
      let m:=JM t x.1 0 64
      if m.2.2=0 then
        if m.2.1=0 then
          let e:=Jv t m.1 Xi
          if e.2.2=0 then (s.1,s.2.1,m.2.1,true,e.1,0,0) else (0,0,0,false,e.1,e.2.1,e.2.2)
        else if m.1<t.size∧bt t m.1.toNat=46 then
          let e:=Jv t m.1 Xi
          if e.2.2=0 then (s.1,s.2.1,m.2.1,true,e.1,0,0) else (0,0,0,false,e.1,0,e.2.2)
        else (s.1,s.2.1,m.2.1,false,m.1,0,0)
      else (0,0,0,false,m.1,m.2.1,m.2.2)
    else
      let m:=JM t x.1 1 64
      if m.2.2=0 then (s.1,s.2.1,m.2.1,s.2.2.2,m.1,0,0) else (0,0,0,false,m.1,m.2.1,m.2.2)
  else (0,0,0,false,x.1,x.2.1,x.2.2)
def JS(t:ByteArray)(a:Int):vU:=jy t (QU t a Zq)
theorem Qco{t:ByteArray}{a:Int}{ss:List ByteArray}:∀ (f k:Nat),k+f=ss.length→(Vb t a ss f k).2.2=0→0≤(Vb t a ss f k).2.1∧(Vb t a ss f k).2.1<ss.length
  |0,k,h,h0=>by unfold Vb KR at h0;simp only [] at h0;split at h0 <;> omega
  |f+1,k,h,h0=>by
    unfold Vb at h0 ⊢
    split
    · simp only [];omega
    · rename_i hc
      rw [if_neg hc] at h0
      exact Qco f (k+1) (by omega) h0
theorem QgG{t:ByteArray}{a:Int}{ss:List ByteArray}(h0:(QU t a ss).2.2=0):0≤(QU t a ss).2.1∧(QU t a ss).2.1<ss.length:=by
  unfold QU at h0 ⊢
  split
  · rename_i hc
    rw [if_pos hc] at h0
    exact Qco ss.length 0 (by omega) h0
  · rename_i hc
    rw [if_neg hc] at h0;simp at h0
theorem zR{t:ByteArray}{a least most:Int}:∀ (d:Nat) (i n:Int),i≤(XK t a least most d i n).1
  |0,i,n=>by unfold XK Zf;(repeat' split) <;> exact Int.le_refl _
  |d+1,i,n=>by
    unfold XK
    split
    · split
      · exact Int.le_refl _
      · have:=zR (t:=t) (a:=a) (least:=least) (most:=most) d (i+1) (10*n+(bt t i.toNat-48));omega
    · unfold Zf;(repeat' split) <;> exact Int.le_refl _
theorem QfR{t:ByteArray}{a least most:Int}(h:(JM t a least most).2.2≠5):a≤(JM t a least most).1∧0≤a:=by
  unfold JM at h ⊢
  split
  · rename_i hc;exact ⟨zR _ _ _,hc.1.1⟩
  · rename_i hc;rw [if_neg hc] at h;simp at h
theorem QaP{t:ByteArray}{a:Int}(ht:t.size≤1000)(h0:0≤a):Zv.f 30000 t a=some (if a<t.size∧bt t a.toNat=46 then ((Jv t a Xi).1,1,(Jv t a Xi).2.2) else (a,0,0)):=by
  unfold Zv.f
  by_cases h:a<(t.size:Int)
  · rw [if_pos h,if_pos h0,jb ht (by decide) (by decide)]
    by_cases hb:bt t a.toNat=46
    · rw [if_pos (show bt t a.toNat=bt ⟨#[46,53]⟩ 0 from hb),if_pos ⟨h,hb⟩];rfl
    · rw [if_neg (show ¬ bt t a.toNat=bt ⟨#[46,53]⟩ 0 from hb),if_neg (fun h'=>hb h'.2)]
  · rw [if_neg h,if_neg (fun h'=>h h'.1)]
theorem Qec{t:ByteArray}{a:Int}(ht:t.size≤1000):Zh.f 30000 t a=some (JS t a):=by
  unfold Zh.f JS jy
  rw [QaO]
  simp only [Option.bind_some]
  rw [(QbU (t:=t) (a:=a) (ss:=Zq) ht (by decide) kZ (k:=30000) (by decide)).1]
  simp only [Option.bind_some]
  by_cases hE:(QU t a Zq).2.2=0
  · have hn:=QgG hE
    rw [if_pos hE,if_pos hE,if_pos hn.1,if_pos (show (QU t a Zq).2.1<(VH.length:Int) from hn.2)]
    by_cases h5:(nt VH (QU t a Zq).2.1.toNat (0,0,0,false)).1=5
    · rw [if_pos h5,if_pos h5,(kJ (t:=t) (a:=(QU t a Zq).1) (least:=0) (most:=64) ht (k:=30000) (by omega)).1]
      simp only [Option.bind_some]
      by_cases hm:(JM t (QU t a Zq).1 0 64).2.2=0
      · have hge:=QfR (t:=t) (a:=(QU t a Zq).1) (least:=0) (most:=64) (by omega)
        rw [if_pos hm,if_pos hm]
        by_cases h0:(JM t (QU t a Zq).1 0 64).2.1=0
        · rw [if_pos h0,if_pos h0,jb ht (by decide) (by decide)]
          simp only [Option.bind_some]
          by_cases he:(Jv t (JM t (QU t a Zq).1 0 64).1 Xi).2.2=0
          · rw [if_pos (show (Jv t (JM t (QU t a Zq).1 0 64).1 ⟨#[46,53]⟩).2.2=0 from he),if_pos he];rfl
          · rw [if_neg (show ¬ (Jv t (JM t (QU t a Zq).1 0 64).1 ⟨#[46,53]⟩).2.2=0 from he),if_neg he];rfl
        · rw [if_neg h0,if_neg h0,QaP ht (by omega)]
          simp only [Option.bind_some]
          by_cases hd:(JM t (QU t a Zq).1 0 64).1<(t.size:Int)∧bt t (JM t (QU t a Zq).1 0 64).1.toNat=46
          · rw [if_pos hd,if_pos hd]
            by_cases he:(Jv t (JM t (QU t a Zq).1 0 64).1 Xi).2.2=0
            · rw [if_pos he,if_pos he];rfl
            · rw [if_neg he,if_neg he]
          · rw [if_neg hd,if_neg hd,if_pos rfl];rfl
      · rw [if_neg hm,if_neg hm]
    · rw [if_neg h5,if_neg h5,(kJ (t:=t) (a:=(QU t a Zq).1) (least:=1) (most:=64) ht (k:=30000) (by omega)).1]
      simp only [Option.bind_some]
      by_cases hm:(JM t (QU t a Zq).1 1 64).2.2=0
      · rw [if_pos hm,if_pos hm]
      · rw [if_neg hm,if_neg hm]
  · rw [if_neg hE,if_neg hE]
set_option maxHeartbeats 40000000
set_option maxRecDepth 100000
open Go.RowKit
set_option linter.unusedVariables false
set_option linter.unusedSimpArgs false
theorem vW(t u:ByteArray){a:Int}(ha:0≤a):∀ (f:Nat) (n:Int),0≤n → ∀ i:Nat,n≤i→(i:Int)<Xj t a u f n→bt t (a+i).toNat=bt u i
  |0,n,h0,i,h1,h2=>by unfold Xj at h2;omega
  |f+1,n,h0,i,h1,h2=>by
    unfold Xj at h2
    split at h2
    · rename_i hc
      by_cases e:(i:Int)=n
      · have:=hc.2;rw [show (a+n).toNat=(a+i).toNat by omega,show n.toNat=i by omega] at this;exact this
      · exact vW t u ha f (n+1) (by omega) i (by omega) h2
    · omega
theorem vX(t u m:ByteArray){a:Int}(ha:0≤a):∀ (f:Nat) (n:Int),0≤n→a+n≤t.size→Xj t a u f n≤Xj (t++m) a u f n
  |0,n,_,_=>Int.le_refl _
  |f+1,n,h0,h1=>by
    have hs:=Qn t m
    rw [Xj]
    split
    · rename_i hc
      rw [show Xj (t++m) a u (f+1) n=if a+n<(t++m).size∧bt (t++m) (a+n).toNat=bt u n.toNat then Xj (t++m) a u f (n+1) else n from rfl]
      rw [if_pos ⟨by omega,by rw [XP t m (by omega)];exact hc.2⟩]
      exact vX t u m ha f (n+1) (by omega) (by omega)
    · exact (zG (t++m) a u (f+1) n (by omega)).1
section
variable {t m:ByteArray} {a:Int} {ss:List ByteArray} {u v:ByteArray}
theorem vY(ha:0≤a){i:Nat}(h:(i:Int)<Jp t a u):bt t (a+i).toNat=bt u i:=vW t u ha u.size 0 (by omega) i (by omega) h
theorem vZ(ha:0≤a)(h:a≤t.size):Jp t a u≤Jp (t++m) a u:=vX t u m ha u.size 0 (by omega) (by omega)
theorem jA(m:ByteArray)(ha:0≤a)(h1:a≤t.size)(h:a+Jp t a u<t.size∨Jp t a u=u.size):Jp (t++m) a u=Jp t a u:=
  jv m ha u.size 0 (by omega) (by omega) (by rw [show Xj t a u u.size 0=Jp t a u from rfl];omega)
theorem zj(ha:0≤a)(hu:Jp t a u=u.size)(hv:Jp t a v=v.size)(h:u.size≤v.size):zD v u=true:=
  QfG.2 ⟨h,fun i hi=>by rw [← vY (t:=t) ha (show (i:Int)<Jp t a v by omega),← vY (t:=t) ha (show (i:Int)<Jp t a u by omega)]⟩
theorem qG(ha:0≤a)(hp:Jq ss=true){i k:Nat}(hi:i<ss.length)(hk:k<ss.length)(hne:i≠k)(h1:Jp t a (wd ss i)=(wd ss i).size)(h2:Jp t a (wd ss k)=(wd ss k).size):False:=by
  have A:=jk hp hi hk
  have B:=jk hp hk hi
  unfold VW at A B
  rw [Bool.or_eq_false_iff,decide_eq_true hne,Bool.true_and] at A
  rw [Bool.or_eq_false_iff,decide_eq_true (show k≠i by omega),Bool.true_and] at B
  rcases Nat.le_total (wd ss i).size (wd ss k).size with h|h
  · rw [zj ha h1 h2 h] at A;exact absurd A.2 (by decide)
  · rw [zj ha h2 h1 h] at B;exact absurd B.2 (by decide)
theorem xR{k:Nat}(hk:Jp t a (wd ss k)=(wd ss k).size):∀ (d i:Nat),i≤k→k<i+d→(∀ j,i≤j→j<k→Jp t a (wd ss j)≠(wd ss j).size)→Vb t a ss d i=(a+Jp t a (wd ss k),(k:Int),0)
  |0,i,h1,h2,h3=>by omega
  |d+1,i,h1,h2,h3=>by
    unfold Vb
    by_cases e:i=k
    · subst e;rw [if_pos hk]
    · rw [if_neg (h3 i (Nat.le_refl _) (by omega))]
      exact xR hk d (i+1) (by omega) (by omega) (fun j a b=>h3 j (by omega) b)
theorem zk:∀ (d i:Nat),(∀ j,i≤j→j<i+d→Jp t a (wd ss j)≠(wd ss j).size)→Vb t a ss d i=(a+JN t a ss (i+d),0,KR t a ss (i+d))
  |0,i,h=>by unfold Vb;simp
  |d+1,i,h=>by
    unfold Vb
    rw [if_neg (h i (Nat.le_refl _) (by omega)),zk d (i+1) (fun j a b=>h j (by omega) (by omega)),show i+1+d=i+(d+1) by omega]
theorem xS:∀ (k j:Nat),j<k→Jp t a (wd ss j)≤JN t a ss k
  |k+1,j,h=>by
    unfold JN
    rcases (show j<k∨j=k by omega) with h'|rfl
    · have:=xS k j h';omega
    · omega
theorem xT:∀ (k:Nat),0<JN t a ss k → ∃ j,j<k∧Jp t a (wd ss j)=JN t a ss k
  |0,h=>by unfold JN at h;omega
  |k+1,h=>by
    unfold JN at h ⊢
    by_cases e:JN t a ss k<Jp t a (wd ss k)
    · exact ⟨k,by omega,by omega⟩
    · obtain ⟨j,h1,h2⟩:=xT k (by omega)
      exact ⟨j,by omega,by omega⟩
theorem qa{t':ByteArray}:∀ (k:Nat),(∀ j,j<k→Jp t' a (wd ss j)=Jp t a (wd ss j))→JN t' a ss k=JN t a ss k
  |0,_=>rfl
  |k+1,h=>by unfold JN;rw [qa k (fun j hj=>h j (by omega)),h k (by omega)]
theorem xU{t':ByteArray}:∀ (k:Nat),(∀ j,j<k→Jp t a (wd ss j)≤Jp t' a (wd ss j))→JN t a ss k≤JN t' a ss k
  |0,_=>Int.le_refl _
  |k+1,h=>by unfold JN;have:=xU k (fun j hj=>h j (by omega));have:=h k (by omega);omega
theorem Qef(h0:0≤a)(h1:a≤t.size)(hp:Jq ss=true):QU t a ss=Vb t a ss ss.length 0:=by
  unfold QU;rw [if_pos ⟨⟨h0,h1⟩,hp⟩]
theorem ZJ(h0:0≤a)(h1:a≤t.size)(hp:Jq ss=true):
    (∃ k,k<ss.length∧Jp t a (wd ss k)=(wd ss k).size∧0<(wd ss k).size∧QU t a ss=(a+Jp t a (wd ss k),(k:Int),0)) ∨
    ((∀ j,j<ss.length→Jp t a (wd ss j)≠(wd ss j).size)∧QU t a ss=(a+JN t a ss ss.length,0,KR t a ss ss.length)):=by
  rw [Qef h0 h1 hp]
  rcases jX (fun k=>Jp t a (wd ss k)=(wd ss k).size) ss.length with ⟨k,hk,hhit,hbef⟩|hno
  · exact .inl ⟨k,hk,hhit,kI hp hk,xR hhit ss.length 0 (by omega) (by omega) (fun j _ hj=>hbef j hj)⟩
  · refine .inr ⟨hno,?_⟩
    rw [zk ss.length 0 (fun j _ hj=>hno j (by omega)),Nat.zero_add]
theorem XB(h0:0≤a)(h1:a≤t.size)(hp:Jq ss=true):a≤(QU t a ss).1∧(QU t a ss).1≤t.size∧((QU t a ss).2.2=0∨(QU t a ss).2.2=1∨(QU t a ss).2.2=2) ∧
    ((QU t a ss).2.2=0→a<(QU t a ss).1∧0≤(QU t a ss).2.1∧(QU t a ss).2.1<ss.length)∧((QU t a ss).2.2=1→(QU t a ss).1=t.size)∧((QU t a ss).2.2=2→(QU t a ss).1<t.size):=by
  have n0:=qB hp
  rcases ZJ h0 h1 hp with ⟨k,hk,hh,hz,e⟩|⟨hno,e⟩ <;> rw [e] <;> dsimp only
  · have:=Ky (t:=t) (a:=a) (wd ss k) h1
    exact ⟨by omega,by omega,.inl rfl,fun _=>⟨by omega,by omega,by omega⟩,fun h=>by omega,fun h=>by omega⟩
  · have:=Va (t:=t) (a:=a) ss h1 ss.length
    unfold KR
    split
    · rename_i hc
      exact ⟨by omega,by omega,.inr (.inl rfl),fun h=>by omega,fun _=>by omega,fun h=>by omega⟩
    · rename_i hc
      exact ⟨by omega,by omega,.inr (.inr rfl),fun h=>by omega,fun h=>by omega,fun _=>by omega⟩
theorem VI(m:ByteArray)(h0:0≤a)(h1:a≤t.size)(hp:Jq ss=true)(h:(QU t a ss).2.2=2∨(QU t a ss).2.2=0):QU (t++m) a ss=QU t a ss:=by
  have n0:=qB hp
  have hs:=Qn t m
  rcases ZJ h0 h1 hp with ⟨k,hk,hh,hz,e⟩|⟨hno,e⟩
  · have e2:=jA m h0 h1 (u:=wd ss k) (.inr hh)
    rcases ZJ (t:=t++m) h0 (by omega) hp with ⟨k',hk',hh',hz',e'⟩|⟨hno',e'⟩
    · have:k'=k:=by
        rcases Nat.lt_or_ge k k' with q|q
        · exact (qG h0 hp hk' hk (by omega) hh' (by rw [e2];exact hh)).elim
        · rcases Nat.lt_or_ge k' k with q2|q2
          · exact (qG h0 hp hk' hk (by omega) hh' (by rw [e2];exact hh)).elim
          · omega
      subst this
      rw [e',e,e2]
    · exact absurd (e2.trans hh) (hno' k hk)
  · rw [e] at h
    simp only [] at h
    have hE:KR t a ss ss.length=2:=by
      rcases h with h|h
      · exact h
      · unfold KR at h;split at h <;> omega
    have hm:=Va (t:=t) (a:=a) ss h1 ss.length
    have hlt:a+JN t a ss ss.length<t.size:=by
      unfold KR at hE
      split at hE
      · omega
      · rename_i hc
        rcases (show a+JN t a ss ss.length<t.size∨a+JN t a ss ss.length=t.size by omega) with h'|h'
        · exact h'
        · exact absurd ⟨n0,by omega⟩ hc
    have fs:∀ j,j<ss.length→Jp (t++m) a (wd ss j)=Jp t a (wd ss j):=fun j hj=>jA m h0 h1 (.inl (by have:=xS (t:=t) (a:=a) (ss:=ss) ss.length j hj;omega))
    rcases ZJ (t:=t++m) h0 (by omega) hp with ⟨k',hk',hh',hz',e'⟩|⟨hno',e'⟩
    · exact absurd ((fs k' hk').symm.trans hh') (hno k' hk')
    · rw [e',e,qa _ fs]
      congr 2
      unfold KR
      rw [qa _ fs,if_neg (by omega),if_neg (by omega)]
theorem QaW(m:ByteArray)(h0:0≤a)(h1:a≤t.size)(hp:Jq ss=true)(h:(QU t a ss).2.2=1):(t.size:Int)≤(QU (t++m) a ss).1:=by
  have n0:=qB hp
  have hs:=Qn t m
  have hm:=Va (t:=t) (a:=a) ss h1 ss.length
  rcases ZJ h0 h1 hp with ⟨k,hk,hh,hz,e⟩|⟨hno,e⟩
  · rw [e] at h;simp at h
  · rw [e] at h
    simp only [] at h
    have hend:a+JN t a ss ss.length=t.size:=by
      unfold KR at h
      split at h
      · rename_i hc;exact hc.2
      · omega
    have ge:∀ j,j<ss.length→Jp t a (wd ss j)≤Jp (t++m) a (wd ss j):=fun j hj=>vZ h0 h1
    rcases ZJ (t:=t++m) h0 (by omega) hp with ⟨k',hk',hh',hz',e'⟩|⟨hno',e'⟩
    · rw [e']
      simp only []
      have b:=Ky (t:=t) (a:=a) (wd ss k') h1
      rcases (show a+Jp t a (wd ss k')<t.size∨a+Jp t a (wd ss k')=t.size by omega) with q|q
      · exact absurd ((jA m h0 h1 (u:=wd ss k') (.inl q)).symm.trans hh') (hno k' hk')
      · have:=ge k' hk';omega
    · rw [e']
      simp only []
      have:=xU (t:=t) (a:=a) (ss:=ss) ss.length ge
      omega
theorem qo(h0:0≤a)(h1:a≤t.size)(hu:0<u.size):a≤(Jv t a u).1∧(Jv t a u).1≤t.size∧((Jv t a u).2.2=0∨(Jv t a u).2.2=1∨(Jv t a u).2.2=2) ∧
    ((Jv t a u).2.2=0→a<(Jv t a u).1)∧((Jv t a u).2.2=1→(Jv t a u).1=t.size)∧((Jv t a u).2.2=2→(Jv t a u).1<t.size):=by
  have b:=Ky (t:=t) (a:=a) u h1
  unfold Jv
  rw [if_pos ⟨h0,h1⟩]
  simp only [wdE]
  refine ⟨?_,?_,?_,fun h_=>?_,fun h_=>?_,fun h_=>?_⟩
  · omega
  · omega
  · (repeat' split) <;> omega
  all_goals ((repeat' split at h_) <;> omega)
theorem vd(m:ByteArray)(h0:0≤a)(h1:a≤t.size)(h:(Jv t a u).2.2=1):(t.size:Int)≤(Jv (t++m) a u).1:=by
  have b:=Ky (t:=t) (a:=a) u h1
  have hs:=Qn t m
  have g:=vZ (m:=m) (u:=u) h0 h1
  unfold Jv at h ⊢
  rw [if_pos ⟨h0,h1⟩] at h
  rw [if_pos ⟨h0,by omega⟩]
  simp only [wdE] at h ⊢
  (repeat' split at h) <;> omega
end
end Go.Proofs.YtaipghemddjecaaGreatDoor
