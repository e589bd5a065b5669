import Derived.Test.YtaipghemddjecaaGreatDoorTxy
import Derived.Test.YtaipghemddjecaaGreatDoorF3wy
namespace Go.Proofs.YtaipghemddjecaaGreatDoor
set_option maxHeartbeats 40000000
set_option maxRecDepth 100000
open Go.RowKit
set_option linter.unusedVariables false
set_option linter.unusedSimpArgs false
theorem zw{l:List Int}{i:Nat}(h:i<l.length):l.take i++[nt l i 0]=l.take (i+1):=by
  rw [VU h,List.take_add_one,List.getElem?_eq_getElem h];rfl
theorem Ke(t m:ByteArray):(t++m).size=t.size+m.size:=by simp
theorem jO(a b c:ByteArray):a++b++c=a++(b++c):=ByteArray.append_assoc
theorem Qgj(a:ByteArray):a++(⟨#[]⟩:ByteArray)=a:=by
  apply ByteArray.ext;simp
theorem Qdr(x:ByteArray):(⟨#[]⟩:ByteArray)++x=x:=by apply ByteArray.ext;simp
def qO(g:Nat):ByteArray:=if 0<g then Utf8.encode (48+(g:Int)) else ⟨#[]⟩
theorem Qal:∀ g:Fin 9,0<g.val→Utf8.encode (48+(g.val:Int))=⟨#[UInt8.ofNat (48+g.val)]⟩:=by decide +kernel
theorem qv{g:Nat}(h:g≤8):(qO g).size≤1:=by
  unfold qO
  split
  · have:=Qal ⟨g,by omega⟩ (by assumption)
    dsimp only at this
    rw [this];exact Nat.le_refl 1
  · exact Nat.zero_le 1
theorem ku{m:Int}(h:-6≤m∧m≤6):(QX m).size≤1:=by
  have D:∀ k:Fin 13,(QX ((k.val:Int)-6)).size≤1:=by decide +kernel
  have:=D ⟨(m+6).toNat,by omega⟩
  dsimp only at this
  rwa [show ((m+6).toNat:Int)-6=m by omega] at this
def qP(b:List Int)(r:Nat):Nat→Nat→Nat→ByteArray
  |0,f,g=>qO g
  |d+1,f,g=>if nt b (8*r+f) 0=0 then qP b r d (f+1) (g+1) else qO g++(QX (nt b (8*r+f) 0)++qP b r d (f+1) 0)
def Men(b:List Int):Prop:=∀ i,-6≤nt b i 0∧nt b i 0≤6
theorem QgS{b:List Int}(hb:Men b){r:Nat}(hr:r<8):∀ (d f g k:Nat) (out:ByteArray),f+d=8→d<k→g≤f→out.size≤100+2*f→Ja.l0 k b r out g f=some (out++qP b r d f g):=by
  intro d
  induction d with
  |zero=>
    intro f g k out hd hk hg ho
    obtain ⟨k,rfl⟩:∃ m,k=m+1:=⟨k-1,by omega⟩
    rw [Ja.l0,if_neg (by omega),qP]
    have hs:=qv (g:=g) (by omega)
    unfold qO at hs ⊢
    by_cases h:0<g
    · rw [if_pos h] at hs ⊢
      rw [if_pos (by omega),w64 (x:=48+(g:Int)) (by omega) (by omega),w32 (by omega) (by omega),if_pos (by omega)]
    · rw [if_neg h,if_neg (by omega),Qgj]
  |succ d ih=>
    intro f g k out hd hk hg ho
    obtain ⟨k,rfl⟩:∃ m,k=m+1:=⟨k-1,by omega⟩
    have hm:=hb (8*r+f)
    rw [Ja.l0,if_pos (by omega),QeW (by omega) (by omega) (by omega) (by omega),qP]
    simp only [Option.bind_some]
    rw [if_pos (by omega),if_pos (by omega),show (8*(r:Int)+f).toNat=8*r+f by omega]
    by_cases h0:nt b (8*r+f) 0=0
    · rw [if_pos h0,if_pos h0,w64 (x:=(g:Int)+1) (by omega) (by omega),w64 (x:=(f:Int)+1) (by omega) (by omega)]
      exact ih (f+1) (g+1) k out (by omega) (by omega) (by omega) (by omega)
    · rw [if_neg h0,if_neg h0,w64 (x:=nt b (8*r+f) 0) (by omega) (by omega),w64 (x:=(f:Int)+1) (by omega) (by omega)]
      have hl:=ku hm
      have hs:=qv (g:=g) (by omega)
      unfold qO at hs ⊢
      by_cases h:0<g
      · rw [if_pos h] at hs ⊢
        rw [if_pos (by omega),w64 (x:=48+(g:Int)) (by omega) (by omega),w32 (by omega) (by omega),if_pos (by omega),if_pos (by rw [Ke];omega)]
        have:=ih (f+1) 0 k ((out++Utf8.encode (48+(g:Int)))++QX (nt b (8*r+f) 0)) (by omega) (by omega) (by omega) (by rw [Ke,Ke];omega)
        rw [show ((f+1:Nat):Int)=(f:Int)+1 by omega,show ((0:Nat):Int)=0 from rfl] at this
        rw [this,jO,jO]
      · rw [if_neg h,if_neg (by omega),if_pos (by omega)]
        have:=ih (f+1) 0 k (out++QX (nt b (8*r+f) 0)) (by omega) (by omega) (by omega) (by rw [Ke];omega)
        rw [show ((f+1:Nat):Int)=(f:Int)+1 by omega,show ((0:Nat):Int)=0 from rfl] at this
        rw [this,jO,Qdr]
def xf(b:List Int)(r:Nat):ByteArray:=qP b r 8 0 0
theorem Qds{b:List Int}(hb:Men b){r:Nat}(hr:r<8){k:Nat}(hk:8<k):Ja.f k b r=some (xf b r):=by
  unfold Ja.f xf
  have:=QgS hb hr 8 0 0 k ⟨#[]⟩ (by omega) hk (by omega) (by show 0≤_;omega)
  rw [show ((0:Nat):Int)=0 from rfl] at this
  rw [this,Qdr]
theorem zx{b:List Int}(hb:Men b)(r:Nat):∀ d f g:Nat,f+d=8→g≤f→(qP b r d f g).size≤1+2*d:=by
  intro d
  induction d with
  |zero=>intro f g h hg;exact qv (by omega)
  |succ d ih=>
    intro f g h hg
    rw [qP]
    split
    · have:=ih (f+1) (g+1) (by omega) (by omega);omega
    · have h1:=ih (f+1) 0 (by omega) (by omega)
      have h2:=qv (g:=g) (by omega)
      have h3:=ku (hb (8*r+f))
      rw [Ke,Ke];omega
def wrT(b:List Int):Nat→ByteArray
  |0=>xf b 0
  |r+1=>xf b (r+1)++((⟨#[47]⟩:ByteArray)++wrT b r)
def qW(b:List Int):Nat→List ByteArray
  |0=>[xf b 0]
  |r+1=>xf b (r+1)::qW b r
theorem kw(b:List Int):∀ r,(qW b r).length=r+1:=by
  intro r;induction r with
  |zero=>rfl
  |succ r ih=>rw [qW,List.length_cons,ih]
theorem Qbs(sep:List UInt8):∀ l:List (List UInt8),l≠[]→Lib.joinTail sep l=sep++Lib.join l sep:=by
  intro l h
  cases l with
  |nil=>exact absurd rfl h
  |cons x r=>rw [Lib.join_cons];simp [Lib.joinTail]
theorem Qbt(b:List Int):∀ r,Lib.join ((qW b r).map (·.data.toList)) [47]=(wrT b r).data.toList:=by
  intro r
  induction r with
  |zero=>rw [qW,List.map_cons,List.map_nil,Lib.join_one,wrT]
  |succ r ih=>
    rw [qW,List.map_cons,Lib.join_cons,Qbs _ _ (by intro h;have:=congrArg List.length h;rw [List.length_map,kw] at this;simp at this),ih,wrT]
    simp
theorem xg{b:List Int}(hb:Men b):∀ r,(wrT b r).size≤18*(r+1):=by
  intro r
  induction r with
  |zero=>have:=zx hb 0 8 0 0 (by omega) (by omega);show (qP b 0 8 0 0).size≤_;omega
  |succ r ih=>
    have:=zx hb (r+1) 8 0 0 (by omega) (by omega)
    rw [wrT,Ke,Ke]
    show (qP b (r+1) 8 0 0).size+(1+_)≤_
    omega
theorem Qhe{b:List Int}(hb:Men b):∀ (r k:Nat) (l:List ByteArray),r<8→r+10<k→l.length+r<100→Qy.l0 k b l r=((Zz.f (l++qW b r) ⟨#[47]⟩).bind fun t=>some (t,0)):=by
  intro r
  induction r with
  |zero=>
    intro k l hr hk hl
    obtain ⟨k,rfl⟩:∃ m,k=m+2:=⟨k-2,by omega⟩
    have R:=Qds hb hr (k:=k+1) (by omega)
    rw [show ((0:Nat):Int)=0 from rfl] at R
    rw [show k+2=(k+1)+1 from rfl,Qy.l0,if_pos (by omega),show ((0:Nat):Int)=0 from rfl,R]
    simp only [Option.bind_some]
    rw [if_pos (by omega),w64 (by omega) (by omega),Qy.l0,if_neg (by decide)];rfl
  |succ r ih=>
    intro k l hr hk hl
    obtain ⟨k,rfl⟩:∃ m,k=m+1:=⟨k-1,by omega⟩
    rw [Qy.l0,if_pos (by omega),Qds hb hr (by omega)]
    simp only [Option.bind_some]
    rw [if_pos (by omega),w64 (by omega) (by omega),show ((r+1:Nat):Int)-1=(r:Int) by omega,ih k _ (by omega) (by omega) (by rw [List.length_append];show _+1+_<_;omega),qW,List.append_assoc]
    rfl
theorem Qfs{b:List Int}(hb:Men b){k:Nat}(hk:20<k):Qy.l0 k b [] 7=some (wrT b 7,0):=by
  have:=Qhe hb 7 k [] (by omega) (by omega) (by simp)
  rw [show ((7:Nat):Int)=7 from rfl] at this
  rw [this,List.nil_append]
  have hs:=xg hb 7
  have hj:=Qbt b 7
  have hlen:(wrT b 7).data.toList.length=(wrT b 7).size:=by simp
  unfold Zz.f
  rw [show ((⟨#[47]⟩:ByteArray).data.toList)=[47] from rfl,hj,if_pos ⟨by rw [kw];omega,by rw [hlen];omega⟩]
  simp only [Option.bind_some,Option.some.injEq,Prod.mk.injEq,and_true]
def rgF(b:List Int):Nat→Nat→Bool
  |0,i=>true
  |d+1,i=>if -6≤nt b i 0∧nt b i 0≤6 then rgF b d (i+1) else false
theorem QgT{b:List Int}(h:B8 b)(i:Nat):-128≤nt b i 0∧nt b i 0≤127:=h.2 i
theorem KX{b:List Int}(h:B8 b):∀ (d i k:Nat),i+d=64→d<k→QB.l0 k b i=some (rgF b d i):=by
  intro d
  induction d with
  |zero=>
    intro i k hd hk
    obtain ⟨k,rfl⟩:∃ m,k=m+1:=⟨k-1,by omega⟩
    rw [QB.l0,if_neg (by omega)];rfl
  |succ d ih=>
    intro i k hd hk
    obtain ⟨k,rfl⟩:∃ m,k=m+1:=⟨k-1,by omega⟩
    have hv:=QgT h i
    have I1:=ih (i+1) k (by omega) (by omega)
    rw [show ((i+1:Nat):Int)=(i:Int)+1 by omega] at I1
    rw [QB.l0,if_pos (by omega),if_pos (show (0:Int)≤i by omega),Int.toNat_natCast,w64 (x:=nt b i 0) (by omega) (by omega),w64 (x:=(i:Int)+1) (by omega) (by omega),rgF,I1]
    by_cases h0:nt b i 0=0
    · rw [if_pos h0,if_pos (by omega)]
    · rw [if_neg h0]
      by_cases h6:-6≤nt b i 0∧nt b i 0≤6
      · rw [if_pos h6,if_pos (show jh (nt b i 0)=true by unfold jh;exact decide_eq_true ⟨h0,h6.1,h6.2⟩)]
      · rw [if_neg h6,if_neg (show ¬ jh (nt b i 0)=true by unfold jh;rw [decide_eq_true_eq];omega)]
theorem Qdt{b:List Int}(hl:b.length=64):∀ (d i:Nat),i+d=64→rgF b d i=true → ∀ j,i≤j → -6≤nt b j 0∧nt b j 0≤6:=by
  intro d
  induction d with
  |zero=>intro i hd _ j hj;rw [VV (by omega)];omega
  |succ d ih=>
    intro i hd h j hj
    rw [rgF] at h
    split at h
    · rename_i h6
      rcases (show j=i∨i+1≤j by omega) with rfl|h'
      · exact h6
      · exact ih (i+1) (by omega) h j h'
    · cases h
theorem vC{b:List Int}(h:B8 b){k:Nat}(hk:200<k):(Men b∧Qy.f k b=some (wrT b 7,0))∨(Qy.f k b=some (⟨#[]⟩,5)):=by
  have R1:=KX h 64 0 k (by omega) (by omega)
  rw [show ((0:Nat):Int)=0 from rfl] at R1
  unfold Qy.f QB.f
  rw [R1]
  simp only [Option.bind_some]
  cases hr:rgF b 64 0 with
  |true=>
    have hb:Men b:=fun j=>Qdt h.1 64 0 (by omega) hr j (by omega)
    left
    rw [if_pos rfl,Qfs hb (by omega)]
    exact ⟨hb,rfl⟩
  |false=>
    right
    rw [if_neg (by decide)]
theorem QeA(t m:ByteArray){i:Nat}(h:i<t.size):bt (t++m) i=bt t i:=by
  unfold bt
  rw [ByteArray.data_append,Array.toList_append,List.getD_eq_getElem?_getD,List.getD_eq_getElem?_getD,List.getElem?_append_left (by simpa using h)]
theorem Qdu(t m:ByteArray){i:Nat}(h:t.size≤i):bt (t++m) i=bt m (i-t.size):=by
  unfold bt
  rw [ByteArray.data_append,Array.toList_append,List.getD_eq_getElem?_getD,List.getD_eq_getElem?_getD,List.getElem?_append_right (by simpa using h)]
  simp
def At(t:ByteArray)(i:Nat)(u:ByteArray):Prop:=∀ j,j<u.size→bt t (i+j)=bt u j
theorem At.left{t u v:ByteArray}{i:Nat}(h:At t i (u++v)):At t i u:=fun j hj=>by
  rw [h j (by rw [Ke];omega),QeA _ _ hj]
theorem At.right{t u v:ByteArray}{i:Nat}(h:At t i (u++v)):At t (i+u.size) v:=fun j hj=>by
  have:=h (u.size+j) (by rw [Ke];omega)
  rw [Qdu _ _ (by omega),show u.size+j-u.size=j by omega] at this
  rw [Nat.add_assoc,this]
theorem xh{t:ByteArray}{i:Nat}{c:Int}{s s':FSt}(h:Xa t i=some s)(hb:bt t i=c)(e:stp c s=some s'):Xa t (i+1)=some s':=by
  show (Xa t i).bind (stp (bt t i))=_
  rw [h,hb];exact e
theorem bdn{b:List Int}{r f:Nat}(hr:r<8)(hf:f<8):nt (bd b) (8*(7-r)+f) 0=nt b (8*r+f) 0:=by
  rw [VB _ (by omega)]
  congr 1
  unfold ix;omega
theorem QeB{m:Int}(h:-6≤m∧m≤6)(h0:m≠0):(QX m).size=1∧bt (QX m) 0≠47∧¬ (49≤bt (QX m) 0∧bt (QX m) 0≤56)∧qf (bt (QX m) 0)=m:=by
  have D:∀ k:Fin 13,((k.val:Int)-6)≠0→(QX ((k.val:Int)-6)).size=1∧bt (QX ((k.val:Int)-6)) 0≠47∧¬ (49≤bt (QX ((k.val:Int)-6)) 0∧bt (QX ((k.val:Int)-6)) 0≤56)∧qf (bt (QX ((k.val:Int)-6)) 0)=((k.val:Int)-6):=by decide +kernel
  have:=D ⟨(m+6).toNat,by omega⟩
  dsimp only at this
  rw [show ((m+6).toNat:Int)-6=m by omega] at this
  exact this h0
theorem QeC{g:Nat}(h0:0<g)(h:g≤8):(qO g).size=1∧bt (qO g) 0=48+(g:Int):=by
  have e:qO g=⟨#[UInt8.ofNat (48+g)]⟩:=by unfold qO;rw [if_pos h0];exact Qal ⟨g,by omega⟩ h0
  rw [e]
  refine ⟨rfl,?_⟩
  show ((UInt8.ofNat (48+g)).toNat:Int)=_
  rw [UInt8.toNat_ofNat'];omega
theorem take_zero{l:List Int}:∀ (g n:Nat),n+g≤l.length→(∀ j,n≤j→j<n+g→nt l j 0=0)→l.take n++List.replicate g 0=l.take (n+g):=by
  intro g
  induction g with
  |zero=>intro n _ _;simp
  |succ g ih=>
    intro n hn hz
    rw [List.replicate_succ,← List.singleton_append,← List.append_assoc,show [(0:Int)]=[nt l n 0] by rw [hz n (by omega) (by omega)],zw (by omega),ih (n+1) (by omega) (fun j h1 h2=>hz j (by omega) (by omega)),show n+1+g=n+(g+1) by omega]
def stF(b:List Int)(r f:Nat):FSt:=((bd b).take (8*(7-r)+f),((7-r:Nat):Int),(f:Int))
theorem Qam{b:List Int}{r:Nat}(hr:r<8){t:ByteArray}{i f g:Nat}(hf:f≤8)(hg:g≤f)(hz:∀ j,f-g≤j→j<f→nt b (8*r+j) 0=0)(ha:At t i (qO g))(h:Xa t i=some (stF b r (f-g))):Xa t (i+(qO g).size)=some (stF b r f):=by
  by_cases h0:0<g
  · obtain ⟨g1,g2⟩:=QeC h0 (by omega)
    have hb:=ha 0 (by omega)
    rw [Nat.add_zero,g2] at hb
    rw [g1]
    refine xh h hb ?_
    unfold stp stF
    simp only
    rw [if_neg (by omega),if_pos (by omega),if_neg (by omega),show (48+(g:Int)-48).toNat=g by omega,take_zero g _ (by rw [KA];omega) (fun j h1 h2=>by
      have:=hz (j-8*(7-r)) (by omega) (by omega)
      rw [← bdn hr (by omega)] at this
      rwa [show 8*(7-r)+(j-8*(7-r))=j by omega] at this),show 8*(7-r)+(f-g)+g=8*(7-r)+f by omega,show (((f-g:Nat)):Int)+(48+(g:Int)-48)=f by omega]
  · obtain rfl:g=0:=by omega
    show Xa t (i+0)=_
    rw [Nat.add_zero,h,Nat.sub_zero]
theorem Qan{b:List Int}(hb:Men b){r:Nat}(hr:r<8){t:ByteArray}:∀ (d f g i:Nat),f+d=8→g≤f→(∀ j,f-g≤j→j<f→nt b (8*r+j) 0=0)→At t i (qP b r d f g)→Xa t i=some (stF b r (f-g))→Xa t (i+(qP b r d f g).size)=some (stF b r 8):=by
  intro d
  induction d with
  |zero=>
    intro f g i hd hg hz ha h
    obtain rfl:f=8:=by omega
    exact Qam hr (by omega) hg hz ha h
  |succ d ih=>
    intro f g i hd hg hz ha h
    rw [qP] at ha ⊢
    by_cases h0:nt b (8*r+f) 0=0
    · rw [if_pos h0] at ha ⊢
      refine ih (f+1) (g+1) i (by omega) (by omega) (fun j h1 h2=>?_) ha (by rw [show f+1-(g+1)=f-g by omega];exact h)
      rcases (show j<f∨j=f by omega) with h'|rfl
      · exact hz j (by omega) h'
      · exact h0
    · rw [if_neg h0] at ha ⊢
      have s1:=Qam hr (by omega) hg hz ha.left h
      obtain ⟨l1,l2,l3,l4⟩:=QeB (hb (8*r+f)) h0
      have a2:=ha.right.left
      have a3:=ha.right.right
      have hbt:=a2 0 (by omega)
      rw [Nat.add_zero] at hbt
      have s2:Xa t (i+(qO g).size+1)=some (stF b r (f+1)):=by
        refine xh s1 hbt ?_
        unfold stp stF
        simp only
        rw [if_neg l2,if_neg l3,l4,if_neg h0,if_neg (by omega),← bdn hr (by omega),zw (by rw [KA];omega)]
        rfl
      rw [l1] at a3
      have:=ih (f+1) 0 _ (by omega) (by omega) (fun j h1 h2=>by omega) a3 (by rw [Nat.sub_zero];exact s2)
      rw [Ke,Ke,l1,← this]
      congr 1;omega
theorem Qdv{b:List Int}(hb:Men b){t:ByteArray}:∀ (r i:Nat),r<8→At t i (wrT b r)→Xa t i=some (stF b r 0)→Xa t (i+(wrT b r).size)=some (stF b 0 8):=by
  intro r
  induction r with
  |zero=>intro i hr ha h;exact Qan hb hr 8 0 0 i (by omega) (by omega) (fun j h1 h2=>by omega) ha h
  |succ r ih=>
    intro i hr ha h
    rw [wrT] at ha ⊢
    have s1:=Qan hb hr 8 0 0 i (by omega) (by omega) (fun j h1 h2=>by omega) ha.left h
    have a2:=ha.right.left
    have a3:=ha.right.right
    have hbt:=a2 0 (by show 0<1;omega)
    rw [Nat.add_zero,show bt (⟨#[47]⟩:ByteArray) 0=47 from rfl] at hbt
    have s2:Xa t (i+(xf b (r+1)).size+1)=some (stF b r 0):=by
      refine xh s1 hbt ?_
      unfold stp stF
      simp only
      rw [if_pos trivial,if_pos (by omega),if_neg (by omega),show 8*(7-(r+1))+8=8*(7-r)+0 by omega,show ((7-(r+1):Nat):Int)+1=((7-r:Nat):Int) by omega]
      rfl
    have:=ih _ (by omega) a3 s2
    rw [Ke,Ke,← this]
    congr 1
    show i+((xf b (r+1)).size+(1+(wrT b r).size))=i+(xf b (r+1)).size+1+(wrT b r).size
    omega
theorem Qdw(t:ByteArray):∀ (d i:Nat) (s:FSt),Xa t (i+d)=some s→rdF t d i=if s.1.length=64 then (bd s.1,((i+d:Nat):Int),0) else (zL,((i+d:Nat):Int),1):=by
  intro d
  induction d with
  |zero=>intro i s h;rw [Nat.add_zero] at h;simp only [rdF,h,Nat.add_zero]
  |succ d ih=>
    intro i s h
    have h':Xa t ((i+1)+d)=some s:=by rw [show i+1+d=i+(d+1) by omega];exact h
    cases hx:Xa t (i+1) with
    |none=>have:=QbG t hx d;rw [this] at h';cases h'
    |some s1=>
      simp only [rdF,hx]
      rw [ih (i+1) s h',show i+1+d=i+(d+1) by omega]
theorem QgU{b:List Int}(hl:b.length=64):bd (bd b)=b:=by
  apply QbD (KA _) hl
  intro s hs
  rw [VB _ hs,VB _ Qgu,QbC hs]
theorem QeD{b:List Int}(hl:b.length=64)(hb:Men b):rdZ (wrT b 7)=(b,((wrT b 7).size:Int),0):=by
  have h0:Xa (wrT b 7) 0=some (stF b 7 0):=by
    show some (([]:List Int),(0:Int),(0:Int))=_
    unfold stF;simp
  have h:=Qdv hb (t:=wrT b 7) 7 0 (by omega) (fun j hj=>by rw [Nat.zero_add]) h0
  unfold rdZ
  rw [Qdw _ _ 0 _ h]
  have e:(stF b 0 8).1=bd b:=by show (bd b).take 64=bd b;exact List.take_of_length_le (by rw [KA];exact Nat.le_refl _)
  rw [e,if_pos (KA _),QgU hl,Nat.zero_add]
end Go.Proofs.YtaipghemddjecaaGreatDoor
