import Derived.Test.YtaipghemddjecaaGreatDoorMiy
import Derived.Test.YtaipghemddjecaaGreatDoorMny
import Derived.Test.YtaipghemddjecaaGreatDoorLvy
import Derived.Test.YtaipghemddjecaaGreatDoorGwy
import Derived.Laws.RangeAny
import Derived.Test.YtaipghemddjecaaGreatDoorF2wy
import Derived.Test.YtaipghemddjecaaGreatDoorZqy
import Derived.Test.YtaipghemddjecaaGreatDoorR1wy
namespace Go.Proofs.YtaipghemddjecaaGreatDoor
set_option maxHeartbeats 40000000
set_option maxRecDepth 100000
open Go.RowKit
set_option linter.unusedVariables false
set_option linter.unusedSimpArgs false
theorem wi8{x:Int}(h0:-128≤x)(h1:x<128):IntKind.i8.wrap x=x:=by unfold IntKind.wrap;simp [IntKind.signed,IntKind.bits];omega
theorem VU{l:List Int}{i:Nat}(h:i<l.length):nt l i 0=l[i]:=by unfold nt;rw [List.getD_eq_getElem?_getD,List.getElem?_eq_getElem h];rfl
theorem VV{l:List Int}{i:Nat}(h:l.length≤i):nt l i 0=0:=by unfold nt;rw [List.getD_eq_getElem?_getD,List.getElem?_eq_none h];rfl
theorem zB{l m:List Int}{i:Nat}(h:i<l.length):nt (l++m) i 0=nt l i 0:=by unfold nt;rw [List.getD_eq_getElem?_getD,List.getD_eq_getElem?_getD,List.getElem?_append_left h]
theorem qY{l m:List Int}{i:Nat}(h:l.length≤i):nt (l++m) i 0=nt m (i-l.length) 0:=by unfold nt;rw [List.getD_eq_getElem?_getD,List.getD_eq_getElem?_getD,List.getElem?_append_right h]
def ix(i:Nat):Nat:=8*(7-i/8)+i%8
theorem QbC{i:Nat}(h:i<64):ix (ix i)=i:=by unfold ix;omega
theorem Qgu{i:Nat}:ix i<64:=by unfold ix;omega
def bd(l:List Int):List Int:=(List.range 64).map fun s=>nt l (ix s) 0
theorem KA(l:List Int):(bd l).length=64:=by simp [bd]
theorem VB(l:List Int){s:Nat}(h:s<64):nt (bd l) s 0=nt l (ix s) 0:=by
  rw [VU (by rw [KA];exact h)];simp [bd]
theorem QbD{a b:List Int}(ha:a.length=64)(hb:b.length=64)(h:∀ s,s<64→nt a s 0=nt b s 0):a=b:=by
  apply List.ext_getElem (by omega)
  intro i h1 h2
  have:=h i (by omega)
  rwa [VU h1,VU h2] at this
theorem QfA{l:List Int}{i s:Nat}{m:Int}(h:s<l.length):nt (l.set i m) s 0=if i=s then m else nt l s 0:=by
  rw [VU (by rw [List.length_set];exact h),List.getElem_set]
  split
  · rfl
  · rw [VU h]
theorem Qfv{l:List Int}{m:Int}(h:l.length<64):(bd l).set (ix l.length) m=bd (l++[m]):=by
  apply QbD (by rw [List.length_set,KA]) (KA _)
  intro s hs
  rw [QfA (by rw [KA];exact hs),VB _ hs]
  split
  · rename_i e
    subst e
    rw [VB _ hs,QbC h,qY (Nat.le_refl _),Nat.sub_self];rfl
  · rename_i e
    rw [VB _ hs]
    rcases Nat.lt_or_ge (ix s) l.length with h1|h1
    · rw [zB h1]
    · rw [VV h1]
      rcases Nat.lt_or_ge l.length (ix s) with h2|h2
      · rw [VV (by simp;omega)]
      · have:ix s=l.length:=by omega
        exact absurd (by rw [← this,QbC hs]) e
theorem QbE(n i:Nat):nt (List.replicate n (0:Int)) i 0=0:=by
  rcases Nat.lt_or_ge i n with h|h
  · rw [VU (by simpa using h)];simp
  · exact VV (by simpa using h)
theorem Qfw(l:List Int)(n:Nat):bd (l++List.replicate n 0)=bd l:=by
  apply QbD (KA _) (KA _)
  intro s hs
  rw [VB _ hs,VB _ hs]
  rcases Nat.lt_or_ge (ix s) l.length with h|h
  · rw [zB h]
  · rw [qY h,QbE,VV h]
theorem Qfz:bd []=zL:=by decide +kernel
def qf(c:Int):Int:=ofZ ⟨#[UInt8.ofNat c.toNat]⟩
theorem QbF:∀ c:Fin 128,Utf8.encode (c.val:Int)=⟨#[UInt8.ofNat c.val]⟩:=by decide +kernel
theorem QfB:∀ c:Fin 256,122<c.val→ofZ ⟨#[UInt8.ofNat c.val]⟩=0:=by decide +kernel
theorem QdN{c:Int}(h0:0≤c)(h:c<128):ofZ (Utf8.encode c)=qf c:=by
  obtain ⟨n,rfl⟩:∃ n:Nat,c=n:=⟨c.toNat,by omega⟩
  have:=QbF ⟨n,by omega⟩
  dsimp only at this
  rw [this];rfl
theorem vD{c:Int}(h0:122<c)(h:c<256):qf c=0:=by
  obtain ⟨n,rfl⟩:∃ n:Nat,c=n:=⟨c.toNat,by omega⟩
  exact QfB ⟨n,by omega⟩ (by dsimp only;omega)
theorem QdQ(c:Int):-6≤qf c∧qf c≤6:=xt _
abbrev FSt:=List Int×Int×Int
def stp(c:Int)(s:FSt):Option FSt:=
  if c=47 then (if s.2.2=8 then (if s.2.1=7 then none else some (s.1,s.2.1+1,0)) else none)
  else if 49≤c∧c≤56 then (if s.2.2+(c-48)>8 then none else some (s.1++List.replicate (c-48).toNat 0,s.2.1,s.2.2+(c-48)))
  else if qf c=0 then none else if s.2.2+1>8 then none else some (s.1++[qf c],s.2.1,s.2.2+1)
def Xa(t:ByteArray):Nat→Option FSt
  |0=>some ([],0,0)
  |n+1=>(Xa t n).bind (stp (bt t n))
structure Inv (s:FSt):Prop where
  len:(s.1.length:Int)=8*s.2.1+s.2.2
  r0:0≤s.2.1
  r1:s.2.1≤7
  f0:0≤s.2.2
  f1:s.2.2≤8
  el:∀ i,-6≤nt s.1 i 0∧nt s.1 i 0≤6
theorem QdR{c:Int}{s s':FSt}(h:Inv s)(e:stp c s=some s'):Inv s':=by
  obtain ⟨l,r,f⟩:=s
  have ⟨h1,h2,h3,h4,h5,h6⟩:=h
  simp only at h1 h2 h3 h4 h5 h6
  unfold stp at e
  simp only at e
  split at e
  · split at e
    · split at e
      · cases e
      · cases e
        exact ⟨by simp only;omega,by simp only;omega,by simp only;omega,by simp,by simp,h6⟩
    · cases e
  · split at e
    · split at e
      · cases e
      · cases e
        refine ⟨by simp only [List.length_append,List.length_replicate];omega,h2,h3,by simp only;omega,by simp only;omega,fun i=>?_⟩
        simp only
        rcases Nat.lt_or_ge i l.length with h|h
        · rw [zB h];exact h6 i
        · rw [qY h,QbE];omega
    · split at e
      · cases e
      · split at e
        · cases e
        · cases e
          refine ⟨by simp only [List.length_append,List.length_singleton];omega,h2,h3,by simp only;omega,by simp only;omega,fun i=>?_⟩
          simp only
          rcases Nat.lt_or_ge i l.length with h|h
          · rw [zB h];exact h6 i
          · rw [qY h]
            rcases Nat.lt_or_ge (i-l.length) 1 with h'|h'
            · have:i-l.length=0:=by omega
              rw [this];exact QdQ c
            · rw [VV (by simpa using h')];omega
theorem vE(t:ByteArray):∀ (n:Nat) (s:FSt),Xa t n=some s→Inv s:=by
  intro n
  induction n with
  |zero=>intro s h;cases h;exact ⟨rfl,by decide,by decide,by decide,by decide,fun i=>by rw [VV (by simp)];omega⟩
  |succ n ih=>
    intro s h
    simp only [Xa] at h
    obtain ⟨s1,h1,h2⟩:=Ia h
    exact QdR (ih s1 h1) h2
theorem QbG(t:ByteArray){n:Nat}(h:Xa t n=none):∀ d,Xa t (n+d)=none:=by
  intro d
  induction d with
  |zero=>exact h
  |succ d ih=>show (Xa t (n+d)).bind _=none;rw [ih];rfl
set_option maxHeartbeats 40000000
set_option maxRecDepth 100000
open Go.RowKit
set_option linter.unusedVariables false
set_option linter.unusedSimpArgs false
theorem QeW{f r:Int}(h0:0≤f)(h1:f<8)(h2:0≤r)(h3:r<8):Jn.f f r=some (8*r+f,true):=by
  unfold Jn.f Za.f
  rw [if_pos h0,if_pos h2,w64 (x:=8*r) (by omega) (by omega),w64 (by omega) (by omega)]
  simp [h1,h3]
theorem QbA{s:FSt}(hi:Inv s)(hf:s.2.2≠8)(c:Int):QP.f (bd s.1) s.2.1 s.2.2 c =
    if ofZ (Utf8.encode c)≠0∧c≤122 then some (true,bd (s.1++[ofZ (Utf8.encode c)]),s.2.1,s.2.2+1) else some (false,bd s.1,s.2.1,s.2.2):=by
  obtain ⟨l,r,f⟩:=s
  have ⟨h1,h2,h3,h4,h5,h6⟩:=hi
  simp only at h1 h2 h3 h4 h5 h6 hf
  unfold QP.f
  simp only
  rw [w64 (x:=7-r) (by omega) (by omega),QeW h4 (by omega) (by omega) (by omega)]
  simp only [Option.bind_some]
  have hr:=xt (Utf8.encode c)
  by_cases hz:ofZ (Utf8.encode c)=0
  · rw [if_neg (by simp [hz]),if_neg (by simp [hz])]
  · rw [if_pos (by simpa using hz),if_pos trivial]
    by_cases hc:c>122
    · rw [if_pos hc,if_neg (by omega)]
    · rw [if_neg hc,if_pos (show 0≤8*(7-r)+f by omega),if_pos (show 8*(7-r)+f<64 by omega),w64 (x:=f+1) (by omega) (by omega),wi8 (by omega) (by omega),if_pos (⟨hz,by omega⟩:_∧_),← Qfv (by omega)]
      rw [show (8*(7-r)+f).toNat=ix l.length by unfold ix;omega]
theorem QdM{s:FSt}(hi:Inv s){c:Int}(h0:0≤c)(hc:c<128):
    (∀ s',stp c s=some s'→QZ.f (bd s.1) s.2.1 s.2.2 c=some (true,bd s'.1,s'.2.1,s'.2.2))∧(stp c s=none → ∃ x,QZ.f (bd s.1) s.2.1 s.2.2 c=some (false,x)):=by
  have M:=QbA hi
  obtain ⟨l,r,f⟩:=s
  have ⟨h1,h2,h3,h4,h5,h6⟩:=hi
  simp only at h1 h2 h3 h4 h5 h6 M
  unfold QZ.f Qp.f QQ.f Qp.f stp
  simp only [Option.bind_some]
  by_cases e:c=47
  · rw [if_pos e,if_pos e]
    by_cases hf:f=8
    · simp only [hf,beq_self_eq_true,if_true]
      by_cases hr:r=7
      · simp [hr]
      · rw [if_neg hr]
        simp only [Option.bind_some]
        rw [if_neg (show ¬ ((r==7)=true) by simpa using hr),w64 (by omega) (by omega)]
        exact ⟨fun s' hs=>(by cases hs;rfl),fun h=>(by cases h)⟩
    · rw [if_neg hf,if_neg (show ¬ ((f==8)=true) by simpa using hf)]
      exact ⟨fun s' hs=>(by cases hs),fun _=>⟨_,rfl⟩⟩
  · rw [if_neg e,if_neg e]
    by_cases hf:f=8
    · rw [if_pos (show (f==8)=true by simpa using hf)]
      refine ⟨fun s' hs=>?_,fun _=>⟨_,rfl⟩⟩
      exfalso
      split at hs
      · rw [if_pos (by omega)] at hs;cases hs
      · split at hs
        · cases hs
        · rw [if_pos (by omega)] at hs;cases hs
    · rw [if_neg (show ¬ ((f==8)=true) by simpa using hf)]
      have byMan:¬ (49≤c∧c≤56)→((∀ s',(if 49≤c∧c≤56 then (if f+(c-48)>8 then none else some (l++List.replicate (c-48).toNat 0,r,f+(c-48))) else if qf c=0 then none else if f+1>8 then none else some (l++[qf c],r,f+1))=some s' →
          ((QP.f (bd l) r f c).bind fun bt48=>some (bt48.1,bt48.2.1,bt48.2.2.1,bt48.2.2.2))=some (true,bd s'.1,s'.2.1,s'.2.2)) ∧
          ((if 49≤c∧c≤56 then (if f+(c-48)>8 then none else some (l++List.replicate (c-48).toNat 0,r,f+(c-48))) else if qf c=0 then none else if f+1>8 then none else some (l++[qf c],r,f+1))=none →
          ∃ x,((QP.f (bd l) r f c).bind fun bt48=>some (bt48.1,bt48.2.1,bt48.2.2.1,bt48.2.2.2))=some (false,x))):=fun hn=>by
        rw [if_neg hn,M hf c,QdN h0 hc]
        by_cases hz:qf c=0
        · rw [if_pos hz,if_neg (by simp [hz])]
          exact ⟨fun s' hs=>(by cases hs),fun _=>⟨_,rfl⟩⟩
        · have hc2:c≤122:=by
            rcases Int.lt_or_le 122 c with h|h
            · exact absurd (vD h (by omega)) hz
            · exact h
          rw [if_neg hz,if_neg (show ¬ f+1>8 by omega),if_pos ⟨hz,hc2⟩]
          exact ⟨fun s' hs=>(by cases hs;rfl),fun h=>(by cases h)⟩
      by_cases g1:c≥49
      · rw [if_pos g1]
        by_cases g2:c≤56
        · rw [if_pos g2,if_pos ⟨g1,g2⟩]
          unfold JF.f
          rw [w32 (by omega) (by omega),w64 (x:=c-48) (by omega) (by omega),w64 (by omega) (by omega)]
          simp only [Option.bind_some]
          by_cases g3:f+(c-48)>8
          · rw [if_pos g3,show decide (f+(c-48)≤8)=false from decide_eq_false (by omega)]
            exact ⟨fun s' hs=>(by cases hs),fun _=>⟨_,rfl⟩⟩
          · rw [if_neg g3,show decide (f+(c-48)≤8)=true from decide_eq_true (by omega)]
            refine ⟨fun s' hs=>(by cases hs;simp only;rw [Qfw]),fun h=>(by cases h)⟩
        · rw [if_neg g2]
          exact byMan (by omega)
      · rw [if_neg g1]
        exact byMan (by omega)
theorem QdO{s:FSt}(hi:Inv s){c:Int}(hc:128≤c):∃ x,QZ.f (bd s.1) s.2.1 s.2.2 c=some (false,x):=by
  have M:=QbA hi
  obtain ⟨l,r,f⟩:=s
  simp only at M
  unfold QZ.f Qp.f
  simp only [Option.bind_some]
  rw [if_neg (by omega)]
  by_cases hf:f=8
  · rw [if_pos (show (f==8)=true by simpa using hf)];exact ⟨_,rfl⟩
  · rw [if_neg (show ¬ ((f==8)=true) by simpa using hf),if_pos (show c≥49 by omega),if_neg (show ¬ c≤56 by omega),M hf c,if_neg (by omega)]
    exact ⟨_,rfl⟩
theorem Qfx{c:Int}(h:128≤c)(h2:c<256)(s:FSt):stp c s=none:=by
  unfold stp
  rw [if_neg (by omega),if_neg (by omega),if_pos (vD (by omega) h2)]
def rdF(t:ByteArray):Nat→Nat→List Int×Int×Int
  |0,i=>match Xa t i with
    |some s=>if s.1.length=64 then (bd s.1,(i:Int),0) else (zL,(i:Int),1)
    |none=>(zL,(i:Int),2)
  |d+1,i=>match Xa t (i+1) with
    |some _=>rdF t d (i+1)
    |none=>(zL,(i:Int),2)
def rdZ(t:ByteArray):List Int×Int×Int:=rdF t t.size 0
theorem Qfy(t:ByteArray)(ht:t.size≤1000):∀ (d i:Nat) (s:FSt) (k:Nat),i+d=t.size→Xa t i=some s→d<k→QJ.l0 k t (bd s.1) s.2.1 s.2.2 i=some (rdF t d i):=by
  intro d
  induction d with
  |zero=>
    intro i s k hd hs hk
    obtain ⟨k,rfl⟩:∃ m,k=m+1:=⟨k-1,by omega⟩
    have hi:=vE t i s hs
    simp only [QJ.l0,rdF,hs]
    obtain ⟨l,r,f⟩:=s
    have ⟨h1,h2,h3,h4,h5,h6⟩:=hi
    simp only at h1 h2 h3 h4 h5 h6
    rw [if_neg (by omega)]
    unfold QQ.f Qp.f
    simp only [Option.bind_some]
    rw [show ((t.size:Nat):Int)=(i:Int) by omega]
    by_cases hf:f=8
    · by_cases hr:r=7
      · rw [if_pos (show l.length=64 by omega)]
        simp [hf,hr]
      · rw [if_neg (show ¬ l.length=64 by omega)]
        simp [hf,hr]
    · rw [if_neg (show ¬ l.length=64 by omega)]
      simp [hf]
  |succ d ih=>
    intro i s k hd hs hk
    obtain ⟨k,rfl⟩:∃ m,k=m+1:=⟨k-1,by omega⟩
    have hi:=vE t i s hs
    have hn:Xa t (i+1)=stp (bt t i) s:=by simp only [Xa,hs,Option.bind_some]
    have b0:=xu t i
    have b1:=QbB t i
    simp only [QJ.l0,rdF]
    rw [if_pos (by omega)]
    by_cases hb:bt t i<128
    · obtain ⟨e1,e2⟩:=Vo t i (by omega) hb
      rw [e1,e2]
      obtain ⟨N1,N2⟩:=QdM hi b0 hb
      cases hst:stp (bt t i) s with
      |none=>
        obtain ⟨x,hx⟩:=N2 hst
        rw [hx,hn,hst]
        simp
      |some s'=>
        rw [N1 s' hst,hn,hst]
        simp only [Option.bind_some,if_true]
        exact ih (i+1) s' k (by omega) (by rw [hn,hst]) (by omega)
    · obtain ⟨x,hx⟩:=QdO hi (ji t i (by omega) (by omega))
      rw [hx,hn,Qfx (by omega) b1]
      simp
theorem QdP(t:ByteArray)(ht:t.size≤1000){k:Nat}(hk:t.size<k):QJ.f k t=some (rdZ t):=by
  unfold QJ.f rdZ
  have:=Qfy t ht t.size 0 ([],0,0) k (by omega) rfl hk
  rw [Qfz] at this
  exact this
set_option maxHeartbeats 40000000
set_option maxRecDepth 100000
open Go.RowKit
set_option linter.unusedVariables false
set_option linter.unusedSimpArgs false
def B1(c:Nat):ByteArray:=⟨#[UInt8.ofNat c]⟩
abbrev RS:=List Int×Int×Int×ByteArray×Int×ByteArray
def zg(k:Nat)(s:RS)(c:Int):Option (Bool×RS):=
  if s.2.1=72 then Xc.f s.1 s.2.1 s.2.2.1 s.2.2.2.1 s.2.2.2.2.1 s.2.2.2.2.2 c
  else if s.2.1=91 then Xd.f s.1 s.2.1 s.2.2.1 s.2.2.2.1 s.2.2.2.2.1 s.2.2.2.2.2 c
  else if s.2.1=106 then ZI.f s.1 s.2.1 s.2.2.1 s.2.2.2.1 s.2.2.2.2.1 s.2.2.2.2.2 c
  else if s.2.1=123 then Xt.f s.1 s.2.1 s.2.2.1 s.2.2.2.1 s.2.2.2.2.1 s.2.2.2.2.2 c
  else if s.2.1=130 then Xu.f k s.1 s.2.1 s.2.2.1 s.2.2.2.1 s.2.2.2.2.1 s.2.2.2.2.2 c
  else none
def rdL(k:Nat)(t:ByteArray)(s:RS)(p:Nat):Option (List Int×Int×Int):=QW.l0 k t s.1 s.2.1 s.2.2.1 s.2.2.2.1 s.2.2.2.2.1 s.2.2.2.2.2 p
section
variable {B:List Int} {sd m:Int} {w f:ByteArray}
def QeY(t:ByteArray):Bool:=decide (bt t (t.size-1)=107)||(decide (49≤bt t (t.size-1))&&decide (bt t (t.size-1)≤56))
end
set_option maxHeartbeats 40000000
set_option maxRecDepth 100000
open Go.RowKit
set_option linter.unusedVariables false
set_option linter.unusedSimpArgs false
def Kk{σ:Type}(run:Nat→Option σ)(fin:σ→Option (List Int)):Nat→Nat→List Int×Int×Int
  |0,i=>match run i with
    |some s=>(match fin s with
      |some b=>(b,(i:Int),0)
      |none=>(zL,(i:Int),1))
    |none=>(zL,(i:Int),2)
  |d+1,i=>match run (i+1) with
    |some _=>Kk run fin d (i+1)
    |none=>(zL,(i:Int),2)
section
variable {σ:Type} {run run':Nat→Option σ} {fin fin':σ→Option (List Int)}
theorem zJ(run:Nat→Option σ)(fin:σ→Option (List Int)):∀ (d i:Nat),(i:Int)≤(Kk run fin d i).2.1∧(Kk run fin d i).2.1≤((i+d:Nat):Int)∧((Kk run fin d i).2.2=0∨(Kk run fin d i).2.2=1∨(Kk run fin d i).2.2=2)
  |0,i=>by
    unfold Kk
    cases run i with
    |none=>exact ⟨Int.le_refl _,by dsimp only;omega,.inr (.inr rfl)⟩
    |some s=>
      dsimp only
      cases fin s with
      |none=>exact ⟨Int.le_refl _,by dsimp only;omega,.inr (.inl rfl)⟩
      |some b=>exact ⟨Int.le_refl _,by dsimp only;omega,.inl rfl⟩
  |d+1,i=>by
    unfold Kk
    cases run (i+1) with
    |none=>exact ⟨Int.le_refl _,by dsimp only;omega,.inr (.inr rfl)⟩
    |some s=>
      dsimp only
      have:=zJ run fin d (i+1)
      omega
theorem jt(T:Nat)(hr:∀ n,n≤T→run' n=run n)(e:Nat):∀ (d i:Nat),i+d=T→run i≠none →
    ((Kk run fin d i).2.2=2∧(Kk run fin d i).2.1<T∧Kk run' fin' (d+e) i=Kk run fin d i) ∨
    (((Kk run fin d i).2.2=0∨(Kk run fin d i).2.2=1)∧(Kk run fin d i).2.1=T∧(T:Int)≤(Kk run' fin' (d+e) i).2.1)
  |0,i,h,h0=>by
    refine .inr ?_
    have b:=(zJ run' fin' (0+e) i).1
    have hi:(i:Int)=(T:Int):=by omega
    rw [hi] at b
    generalize (Kk run' fin' (0+e) i).2.1=y at b ⊢
    unfold Kk
    cases hc:run i with
    |none=>exact absurd hc h0
    |some s=>
      dsimp only
      cases fin s with
      |none=>exact ⟨.inr rfl,hi,b⟩
      |some _=>exact ⟨.inl rfl,hi,b⟩
  |d+1,i,h,h0=>by
    rw [show d+1+e=(d+e)+1 by omega]
    rw [Kk,Kk,hr (i+1) (by omega)]
    cases hc:run (i+1) with
    |none=>exact .inl ⟨rfl,by dsimp only;omega,rfl⟩
    |some s=>
      dsimp only
      exact jt T hr e d (i+1) (by omega) (by rw [hc];simp)
end
structure BGood (rd:ByteArray→List Int×Int×Int):Prop where
  bd:∀ u,0≤(rd u).2.1∧(rd u).2.1≤u.size∧((rd u).2.2=0∨(rd u).2.2=1∨(rd u).2.2=2)
  goes:∀ u m,((rd u).2.2=2∧(rd u).2.1<u.size∧rd (u++m)=rd u)∨(((rd u).2.2=0∨(rd u).2.2=1)∧(rd u).2.1=u.size∧(u.size:Int)≤(rd (u++m)).2.1)
theorem jc(t:ByteArray):∀ (d i:Nat),rdF t d i=Kk (Xa t) (fun s=>if s.1.length=64 then some (bd s.1) else none) d i
  |0,i=>by
    unfold rdF Kk
    cases Xa t i with
    |none=>rfl
    |some s=>simp only [];by_cases h:s.1.length=64 <;> simp [h]
  |d+1,i=>by
    unfold rdF Kk
    cases Xa t (i+1) with
    |none=>rfl
    |some s=>exact jc t d (i+1)
theorem xG(t m:ByteArray):∀ n,n≤t.size→Xa (t++m) n=Xa t n
  |0,_=>rfl
  |n+1,h=>by rw [Xa,Xa,xG t m n (by omega),XP t m (by omega)]
theorem xH:BGood rdZ:=by
  refine ⟨fun u=>?_,fun u m=>?_⟩
  · unfold rdZ
    rw [jc]
    have:=zJ (Xa u) (fun s=>if s.1.length=64 then some (bd s.1) else none) u.size 0
    omega
  · unfold rdZ
    rw [jc,jc,Qn]
    exact jt u.size (fun n hn=>xG u m n hn) m.size u.size 0 (by omega) (by simp [Xa])
structure RI (s:RS):Prop where
  next:s.2.1=72∨s.2.1=91∨s.2.1=106∨s.2.1=123∨s.2.1=130
  word:s.2.1=72→1≤s.2.2.2.1.size ∧ ∀ i,bt s.2.2.2.1 i<128
  side:s.2.2.1=0∨s.2.2.1=1
  file:s.2.1=130→s.2.2.2.2.2.size=1∧97≤bt s.2.2.2.2.2 0∧bt s.2.2.2.2.2 0≤104
theorem xI{c:Int}{u:ByteArray}(hu:∀ i,bt u i<128)(h:(Utf8.encode c).toList=(u.extract 0 1).toList):c<128:=by
  rcases Int.lt_or_le c 128 with q|q
  · exact q
  · exfalso
    obtain ⟨e1,e2,e3⟩:=kR q
    rw [ByteArray.toList_eq,ByteArray.toList_eq,xy] at h
    have h2:=hu 0
    unfold bt at e3 h2
    rw [h] at e3
    rw [List.getD_eq_getElem?_getD] at e3 h2
    rw [List.getElem?_take] at e3
    simp only [Nat.zero_lt_one,if_true] at e3
    omega
theorem Qci(m:Int){sd:Int}:∃ r,JW.f m sd=some r:=by
  unfold JW.f
  (repeat' split) <;> exact ⟨_,rfl⟩
theorem QdX(u:ByteArray)(i:Nat):bt (u.extract 1 u.size) i=bt u (1+i):=by
  rcases Nat.lt_or_ge (1+i) u.size with h|h
  · exact zE u 1 i h
  · rw [zM _ h,zM _ (by rw [KE];omega)]
section
variable {s:RS} {c:Int} {k:Nat}
theorem kS(hi:RI s)(h0:0≤c)(hk:10≤k):∃ b s',zg 10 s c=some (b,s')∧zg k s c=some (b,s')∧(b=true→c<128∧RI s'):=by
  obtain ⟨B,nx,sd,w,m,f⟩:=s
  have ⟨h1,h2,h3,h4⟩:=hi
  simp only at h1 h2 h3 h4
  unfold zg
  simp only []
  rcases h1 with rfl|rfl|rfl|rfl|rfl
  · rw [if_pos rfl,if_pos rfl]
    obtain ⟨hw,hb⟩:=h2 rfl
    unfold Xc.f
    rw [if_pos (by omega)]
    by_cases e:(Utf8.encode c).toList=(w.extract 0 1).toList
    · rw [if_pos e]
      by_cases e2:(w.extract 1 w.size).toList=[]
      · rw [if_pos e2]
        exact ⟨true,_,rfl,rfl,fun _=>⟨xI hb e,⟨.inr (.inl rfl),fun h=>by simp at h,h3,fun h=>by simp at h⟩⟩⟩
      · rw [if_neg e2]
        refine ⟨true,_,rfl,rfl,fun _=>⟨xI hb e,⟨.inl rfl,fun _=>⟨?_,fun i=>?_⟩,h3,fun h=>by simp at h⟩⟩⟩
        · rcases Nat.eq_zero_or_pos (w.extract 1 w.size).size with q|q
          · exfalso
            apply e2
            rw [ByteArray.toList_eq]
            exact List.eq_nil_of_length_eq_zero (by simpa using q)
          · exact q
        · simp only [];rw [QdX];exact hb _
    · rw [if_neg e];exact ⟨false,_,rfl,rfl,fun h=>by cases h⟩
  · rw [if_neg (by decide),if_pos rfl,if_neg (by decide),if_pos rfl]
    unfold Xd.f
    refine ⟨_,_,rfl,rfl,fun h=>⟨by have:=beq_iff_eq.1 h;omega,⟨.inr (.inr (.inl rfl)),fun h=>by simp at h,h3,fun h=>by simp at h⟩⟩⟩
  · rw [if_neg (by decide),if_neg (by decide),if_pos rfl,if_neg (by decide),if_neg (by decide),if_pos rfl]
    unfold ZI.f
    obtain ⟨r,hr⟩:=Qci (ofZ (Utf8.encode c)) (sd:=sd)
    rw [hr]
    simp only [Option.bind_some]
    have fin:∃ b s',(if (ofZ (Utf8.encode c) != 0)=true then (if (ofZ (Utf8.encode c))>0 then (some (decide (c≤90),B,(123:Int),sd,w,r,f)) else (some (false,B,123,sd,w,r,f))) else (some (false,B,123,sd,w,r,f)))=some (b,s') ∧
        (b=true→c<128∧RI s'):=by
      split
      · split
        · exact ⟨_,_,rfl,fun h=>⟨by have:=of_decide_eq_true h;omega,⟨.inr (.inr (.inr (.inl rfl))),fun h=>by simp at h,h3,fun h=>by simp at h⟩⟩⟩
        · exact ⟨_,_,rfl,fun h=>by cases h⟩
      · exact ⟨_,_,rfl,fun h=>by cases h⟩
    by_cases hs:sd=0
    · rw [if_pos hs]
      by_cases hc:c=98
      · rw [if_pos hc]
        refine ⟨_,_,rfl,rfl,fun _=>⟨by omega,⟨.inl rfl,fun _=>⟨(show 1≤((⟨#[98,108,97,99,107]⟩:ByteArray).extract 1 (⟨#[98,108,97,99,107]⟩:ByteArray).size).size by decide +kernel),fun i=>?_⟩,.inr rfl,fun h=>by simp at h⟩⟩⟩
        simp only []
        rw [show (⟨#[98,108,97,99,107]⟩:ByteArray).extract 1 (⟨#[98,108,97,99,107]⟩:ByteArray).size=⟨#[108,97,99,107]⟩ by decide +kernel]
        match i with
        |0=>decide
        |1=>decide
        |2=>decide
        |3=>decide
        |n+4=>rw [zM _ (show (⟨#[108,97,99,107]⟩:ByteArray).size≤n+4 from Nat.le_add_left _ _)];decide
      · rw [if_neg hc]
        obtain ⟨b,s',e1,e2⟩:=fin
        exact ⟨b,s',e1,e1,e2⟩
    · rw [if_neg hs]
      obtain ⟨b,s',e1,e2⟩:=fin
      exact ⟨b,s',e1,e1,e2⟩
  · rw [if_neg (by decide),if_neg (by decide),if_neg (by decide),if_pos rfl,if_neg (by decide),if_neg (by decide),if_neg (by decide),if_pos rfl]
    unfold Xt.f
    by_cases hc:c≥97
    · rw [if_pos hc]
      refine ⟨_,_,rfl,rfl,fun h=>?_⟩
      have hc2:=of_decide_eq_true h
      obtain ⟨e1,e2⟩:=kT h0 (show c<128 by omega)
      exact ⟨by omega,⟨.inr (.inr (.inr (.inr rfl))),fun h=>by simp at h,h3,fun _=>⟨e1,by simp only [];omega,by simp only [];omega⟩⟩⟩
    · rw [if_neg hc];exact ⟨false,_,rfl,rfl,fun h=>by cases h⟩
  · rw [if_neg (by decide),if_neg (by decide),if_neg (by decide),if_neg (by decide),if_pos rfl,if_neg (by decide),if_neg (by decide),if_neg (by decide),if_neg (by decide),if_pos rfl]
    obtain ⟨f1,f2,f3⟩:=h4 rfl
    have E:0<(Utf8.encode c).size∧(Utf8.encode c).size≤4∧(c<128→(Utf8.encode c).size=1∧bt (Utf8.encode c) 0=c)∧(128≤c→128≤bt (Utf8.encode c) 0):=by
      rcases Int.lt_or_le c 128 with q|q
      · obtain ⟨e1,e2⟩:=kT h0 q
        exact ⟨by omega,by omega,fun _=>⟨e1,e2⟩,fun h=>by omega⟩
      · obtain ⟨e1,e2,e3⟩:=kR q
        exact ⟨e1,e2,fun h=>by omega,fun _=>e3⟩
    obtain ⟨E1,E2,E3,E4⟩:=E
    have X0:bt (f++Utf8.encode c) 0=bt f 0:=XP _ _ (by omega)
    have X1:bt (f++Utf8.encode c) 1=bt (Utf8.encode c) 0:=by rw [zN _ _ (by omega),f1]
    have XS:=Qn f (Utf8.encode c)
    unfold Xu.f
    rw [if_pos (by omega),if_pos (by omega)]
    by_cases hd:49≤bt (f++Utf8.encode c) 1∧bt (f++Utf8.encode c) 1≤56
    · have hc:c<128:=by
        rcases Int.lt_or_le c 128 with q|q
        · exact q
        · have:=E4 q;omega
      obtain ⟨e1,e2⟩:=E3 hc
      rw [zO (by omega) (by omega) hd (by omega),zO (by omega) (by omega) hd (by omega)]
      simp only [Option.bind_some,if_true]
      rw [if_pos (by omega),if_pos (by omega)]
      split
      · exact ⟨true,_,rfl,rfl,fun _=>⟨hc,⟨.inr (.inl rfl),fun h=>by simp at h,h3,fun h=>by simp at h⟩⟩⟩
      · exact ⟨false,_,rfl,rfl,fun h=>by cases h⟩
    · rw [zP (by omega) (by omega) hd (by omega),zP (by omega) (by omega) hd (by omega)]
      exact ⟨false,_,rfl,rfl,fun h=>by cases h⟩
end
def vQ:RS:=(zL,72,0,⟨#[119,104,105,116,101]⟩,0,⟨#[]⟩)
def qk(t:ByteArray):Nat→Option RS
  |0=>some vQ
  |n+1=>(qk t n).bind fun s=>match zg 10 s (bt t n) with
    |some (true,s')=>some s'
    |_=>none
def QdY(t:ByteArray)(s:RS):Option (List Int):=if s.2.2.1=1∧s.2.2.2.1.toList=[]∧QeY t=true then some s.1 else none
def rlZ(t:ByteArray):List Int×Int×Int:=Kk (qk t) (QdY t) t.size 0
theorem QdZ:RI vQ:=by
  refine ⟨.inl rfl,fun _=>⟨by decide,fun i=>?_⟩,.inl rfl,fun h=>absurd h (by decide)⟩
  unfold vQ
  simp only []
  match i with
  |0=>decide
  |1=>decide
  |2=>decide
  |3=>decide
  |4=>decide
  |n+5=>rw [zM _ (show (⟨#[119,104,105,116,101]⟩:ByteArray).size≤n+5 from Nat.le_add_left _ _)];decide
theorem kU(t:ByteArray):∀ (n:Nat) (s:RS),qk t n=some s→RI s∧(s.2.2.1=1→0<n)
  |0,s,h=>by
    obtain rfl:=Option.some.inj h
    exact ⟨QdZ,fun h=>absurd h (by decide)⟩
  |n+1,s,h=>by
    unfold qk at h
    rw [Option.bind_eq_some_iff] at h
    obtain ⟨s0,h1,h2⟩:=h
    obtain ⟨b,s',e1,_,e3⟩:=kS (kU t n s0 h1).1 (xu t n) (Nat.le_refl 10)
    rw [e1] at h2
    cases b with
    |false=>cases h2
    |true=>obtain rfl:=Option.some.inj h2;exact ⟨(e3 rfl).2,fun _=>by omega⟩
theorem Qcj{t:ByteArray}{p k:Nat}(s:RS)(hp:p<t.size):rdL (k+1) t s p=(zg k s ((Utf8.decode t p).1:Int)).bind fun r=>if r.1=true then rdL k t r.2 (p+(Utf8.decode t p).2) else some (zL,(p:Int),2):=by
  unfold rdL zg
  rw [QW.l0,if_pos hp]
  by_cases h1:s.2.1=72
  · rw [if_pos h1,if_pos h1]
  · rw [if_neg h1,if_neg h1]
    by_cases h2:s.2.1=91
    · rw [if_pos h2,if_pos h2]
    · rw [if_neg h2,if_neg h2]
      by_cases h3:s.2.1=106
      · rw [if_pos h3,if_pos h3]
      · rw [if_neg h3,if_neg h3]
        by_cases h4:s.2.1=123
        · rw [if_pos h4,if_pos h4]
        · rw [if_neg h4,if_neg h4]
          by_cases h5:s.2.1=130
          · rw [if_pos h5,if_pos h5]
          · rw [if_neg h5,if_neg h5];rfl
theorem QfN(t:ByteArray)(ht:t.size≤1000):∀ (d i:Nat) (s:RS) (k:Nat),i+d=t.size→qk t i=some s→d+12<k→rdL k t s i=some (Kk (qk t) (QdY t) d i):=by
  intro d
  induction d with
  |zero=>
    intro i s k hd hs hk
    obtain ⟨k,rfl⟩:∃ m,k=m+1:=⟨k-1,by omega⟩
    obtain ⟨hi,hp⟩:=kU t i s hs
    unfold rdL Kk
    rw [hs,QW.l0,if_neg (by omega)]
    simp only []
    rw [show ((t.size:Nat):Int)=(i:Int) by omega]
    unfold Zd.f QdY
    by_cases h1:s.2.2.1=1
    · have h0:=hp h1
      rw [if_pos h1]
      by_cases h2:s.2.2.2.1.toList=[]
      · rw [if_pos h2,w64 (x:=(t.size:Int)-1) (by omega) (by omega),if_pos (by omega),if_pos (by omega),show ((t.size:Int)-1).toNat=t.size-1 by omega]
        have ov:QeY t=(decide (bt t (t.size-1)=107)||(decide (49≤bt t (t.size-1))&&decide (bt t (t.size-1)≤56))):=rfl
        rw [ov]
        generalize bt t (t.size-1)=x
        by_cases q1:x=107
        · subst q1;rw [if_pos rfl,if_pos ⟨h1,h2,by decide⟩];rfl
        · rw [if_neg q1]
          by_cases q2:x≥49
          · rw [if_pos q2]
            by_cases q3:x≤56
            · rw [if_pos ⟨h1,h2,by simp;omega⟩,decide_eq_true q3];rfl
            · rw [if_neg (fun h=>by have h:=h.2.2;simp at h;omega),decide_eq_false q3];rfl
          · rw [if_neg q2,if_neg (fun h=>by have h:=h.2.2;simp at h;omega)];rfl
      · rw [if_neg h2,if_neg (fun h=>h2 h.2.1)];rfl
    · rw [if_neg h1,if_neg (fun h=>h1 h.1)];rfl
  |succ d ih=>
    intro i s k hd hs hk
    obtain ⟨k,rfl⟩:∃ m,k=m+1:=⟨k-1,by omega⟩
    obtain ⟨hi,hp⟩:=kU t i s hs
    have b0:=xu t i
    have b1:=QbB t i
    rw [Qcj s (by omega),Kk,qk,hs]
    simp only [Option.bind_some]
    obtain ⟨b,s',e1,e2,e3⟩:=kS (k:=k) hi b0 (by omega)
    rcases Int.lt_or_le (bt t i) 128 with q|q
    · obtain ⟨d1,d2⟩:=Vo t i (by omega) q
      rw [d1,d2,e1,e2]
      cases b with
      |false=>simp
      |true=>
        simp only [Option.bind_some,if_true]
        refine ih (i+1) s' k (by omega) ?_ (by omega)
        rw [qk,hs]
        simp only [Option.bind_some]
        rw [e1]
    · obtain ⟨b',s2,_,g2,g3⟩:=kS (k:=k) hi (c:=((Utf8.decode t i).1:Int)) (by omega) (by omega)
      have hh:=ji t i (by omega) q
      have hb':b'=false:=by
        cases b' with
        |false=>rfl
        |true=>have:=(g3 rfl).1;omega
      have hb:b=false:=by
        cases b with
        |false=>rfl
        |true=>have:=(e3 rfl).1;omega
      subst hb' hb
      rw [g2,e1]
      simp
theorem Qea(t:ByteArray)(ht:t.size≤1000){k:Nat}(hk:t.size+12<k):QW.f k t=some (rlZ t):=by
  have:=QfN t ht t.size 0 vQ k (by omega) rfl hk
  exact this
theorem xJ(t m:ByteArray):∀ n,n≤t.size→qk (t++m) n=qk t n
  |0,_=>rfl
  |n+1,h=>by rw [qk,qk,xJ t m n (by omega),XP t m (by omega)]
theorem xK:BGood rlZ:=by
  refine ⟨fun u=>?_,fun u m=>?_⟩
  · unfold rlZ
    have:=zJ (qk u) (QdY u) u.size 0
    omega
  · unfold rlZ
    rw [Qn]
    exact jt u.size (fun n hn=>xJ u m n hn) m.size u.size 0 (by omega) (by simp [qk])
end Go.Proofs.YtaipghemddjecaaGreatDoor
