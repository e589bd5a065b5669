import Derived.Test.YtaipghemddjecaaGreatDoorWay
import Derived.Test.YtaipghemddjecaaGreatDoorWby
import Derived.Test.YtaipghemddjecaaGreatDoorT5y
namespace Go.Proofs.YtaipghemddjecaaGreatDoor
set_option maxHeartbeats 40000000
set_option maxRecDepth 100000
open Go.RowKit
set_option linter.unusedVariables false
set_option linter.unusedSimpArgs false
structure AtS (s:TS) (P u:ByteArray):Prop where
  t:s.t=P++u
  a:s.a=(P.size:Int)
  e:s.e=0
def TS.to(s:TS)(Q:ByteArray):TS:={ s with a:=(Q.size:Int),e:=0 }
section
variable {s:TS} {P u v w R:ByteArray}
theorem AtS.next(h:AtS s P (u++v)){x:TS}(hx:x.t=s.t)(ha:x.a=((P++u).size:Int))(he:x.e=0):AtS x (P++u) v:=⟨by rw [hx,h.t,ByteArray.append_assoc],ha,he⟩
theorem AtS.to(h:AtS s P (u++v)):AtS (s.to (P++u)) (P++u) v:=h.next rfl rfl rfl
theorem AtS.bd(h:AtS s P u):0≤s.a∧s.a≤s.t.size:=by
  rw [h.a,h.t,Qn];omega
theorem kx(P w R:ByteArray):Jp (P++(w++R)) (P.size:Int) w=w.size:=by
  have:=qu P (w++R) (a:=0) (Int.le_refl _) w
  rw [Int.add_zero] at this
  rw [this,QdT R (.inr (xz w))]
  exact xz w
theorem KP(h:AtS s P (w++R)):Qx w s=s.to (P++w):=by
  have hs:=Qn P (w++R)
  have hz:Jv s.t s.a w=((P.size:Int)+w.size,0,0):=by
    rw [h.t,h.a]
    unfold Jv
    rw [if_pos ⟨by omega,by omega⟩,kx]
    unfold wdE
    rw [if_pos rfl]
  unfold Qx
  rw [if_pos h.e,hz]
  unfold TS.at_ TS.to
  rw [Qn];rfl
theorem xi{ss:List ByteArray}(hp:Jq ss=true){j:Nat}(hj:j<ss.length)(h:AtS s P (wd ss j++R)):QU s.t s.a ss=(((P++wd ss j).size:Int),(j:Int),0):=by
  have hb:=h.bd
  have hf:=kx P (wd ss j) R
  rw [h.t,h.a] at hb ⊢
  rcases ZJ hb.1 hb.2 hp with ⟨k,hk,hk2,_,e⟩|⟨hno,e⟩
  · by_cases c:k=j
    · subst c
      rw [e,hf,Qn];rfl
    · exact (qG hb.1 hp hk hj c hk2 hf).elim
  · exact absurd hf (hno j hj)
theorem jP{ss:List ByteArray}(hp:Jq ss=true){j:Nat}(hj:j<ss.length)(h:AtS s P (wd ss j++R)):QS ss s=((j:Int),s.to (P++wd ss j)):=by
  unfold QS
  rw [if_pos h.e,xi hp hj h];rfl
theorem Qdx{l m n:Int}(hl:0≤l∧l≤m∧m≤1000000){D:ByteArray}(hz:JM (D++nlB) 0 l m=((D.size:Int),n,0))(h:AtS s P (D++(nlB++R))):Kr l m s=(n,s.to (P++D)):=by
  have e:JM s.t s.a l m=(((P++D).size:Int),n,0):=by
    rw [h.t,h.a,← ByteArray.append_assoc (a:=D)]
    have:=xe P ((D++nlB)++R) (a:=0) (Int.le_refl _) (by omega) hl
    rw [Int.add_zero] at this
    rw [this,zQ R (by rw [hz,Qn,show nlB.size=1 from rfl];dsimp only;omega) (by rw [hz];show (0:Int)≠5;decide),hz,Qn];rfl
  unfold Kr
  rw [if_pos h.e,e];rfl
theorem QgV{N:ByteArray}{n:Int}(hz:sqZ N 0=((N.size:Int),n,0))(h:AtS s P (N++R)):sqR s={ s.to (P++N) with ep:=n }:=by
  have e:sqZ s.t s.a.toNat=(((P++N).size:Int),n,0):=by
    rw [h.t,h.a,Int.toNat_natCast]
    have:=Qgi P (N++R) 0
    rw [Nat.add_zero] at this
    rw [this,ve R (Nat.zero_le _) (by rw [hz];show (0:Int)≠1;decide),hz,Qn];rfl
  unfold sqR
  rw [if_pos h.e,e];rfl
def caT:List Nat→ByteArray
  | []=>⟨#[]⟩
  |i::S=>caB i++caT S
def caO(c:Int):List Nat→Int
  | []=>c
  |i::S=>caO (Go.bits .or .i64 c (2^i)) S
theorem Qdy{fr i:Nat}(h0:fr≤i)(h1:i<4):(caL fr).getD (i-fr) ByteArray.empty=caB i:=by
  unfold caL
  rw [List.getD_eq_getElem?_getD,List.getElem?_map,List.getElem?_range' (by omega)]
  show (some (caB (fr+1*(i-fr)))).getD _=_
  rw [show fr+1*(i-fr)=i by omega];rfl
theorem Qgk{fr i:Nat}(any:Bool)(h0:fr≤i)(h1:i<4):wd (caW fr any) (i-fr)=caB i∧i-fr<(caW fr any).length:=by
  have hl:=zU fr
  unfold wd nt caW
  cases any with
  |true=>
    rw [if_pos rfl]
    refine ⟨?_,by rw [List.length_append,hl];omega⟩
    rw [List.getD_eq_getElem?_getD,List.getElem?_append_left (by omega),← List.getD_eq_getElem?_getD]
    exact Qdy h0 h1
  |false=>
    rw [if_neg (by decide)]
    exact ⟨Qdy h0 h1,by omega⟩
theorem Qgl{fr:Nat}(h:fr≤4):wd (caW fr true) (4-fr)=nlB∧4-fr<(caW fr true).length:=by
  have hl:=zU fr
  unfold wd nt caW
  rw [if_pos rfl]
  refine ⟨?_,by rw [List.length_append,hl];simp⟩
  rw [List.getD_eq_getElem?_getD,List.getElem?_append_right (by omega),hl,Nat.sub_self];rfl
theorem xj(x:ByteArray):(⟨#[]⟩:ByteArray)++x=x:=by apply ByteArray.ext;simp
theorem je(x:ByteArray):x++(⟨#[]⟩:ByteArray)=x:=by apply ByteArray.ext;simp
theorem Qft:∀ (S:List Nat) (d fr:Nat) (any:Bool) (s:TS) (P:ByteArray),S.Pairwise (· < ·)→(∀ i∈S,fr≤i∧i<4)→CaOk fr any→S.length<d→(S=[]→any=true)→AtS s P (caT S++(nlB++R)) →
    caF d fr any s={ s.to (P++caT S) with ca:=caO s.ca S }
  |S,0,_,_,_,_,_,_,_,h,_,_=>by omega
  | [],d+1,fr,any,s,P,_,_,hc,_,ha,h=>by
    obtain rfl:=ha rfl
    have W:=Qgl hc.le4
    rw [show caT []++(nlB++R)=nlB++R from xj _,← W.1] at h
    have e:=xi hc.apart W.2 h
    rw [W.1] at e
    unfold caF
    rw [e,if_pos rfl,if_pos (by have:=hc.le4;dsimp only;omega)]
    show _={ s.to (P++caT []) with ca:=s.ca }
    rw [show P++caT []=P from je P]
    unfold TS.to
    rw [Qn,show nlB.size=1 from rfl]
    congr 1
    dsimp only
    omega
  |i::S,d+1,fr,any,s,P,hp,hi,hc,hd,ha,h=>by
    have hi0:=hi i (List.mem_cons_self ..)
    have W:=Qgk any hi0.1 hi0.2
    rw [show caT (i::S)=caB i++caT S from rfl,ByteArray.append_assoc] at h
    have h':=h
    rw [← W.1] at h'
    have e:=xi hc.apart W.2 h'
    rw [W.1] at e
    unfold caF
    rw [e,if_pos rfl,if_neg (by dsimp only;omega)]
    dsimp only
    rw [show fr+(((i-fr:Nat):Int)).toNat+1=i+1 by omega,show fr+(((i-fr:Nat):Int)).toNat=i by omega]
    rw [Qft S d (i+1) true { s with a:=((P++caB i).size:Int),e:=0,ca:=Go.bits .or .i64 s.ca (2^i) } (P++caB i) (List.pairwise_cons.1 hp).2 (fun j hj=>⟨(List.pairwise_cons.1 hp).1 j hj,(hi j (List.mem_cons_of_mem _ hj)).2⟩) ⟨by omega,fun h=>by cases h⟩ (by simp at hd;omega) (fun _=>rfl) (h.next rfl rfl rfl)]
    show _={ s.to (P++(caB i++caT S)) with ca:=caO (Go.bits .or .i64 s.ca (2^i)) S }
    rw [← ByteArray.append_assoc];rfl
theorem Qbu{S:List Nat}(hp:S.Pairwise (· < ·))(hi:∀ i∈S,i<4)(hn:S≠[])(hl:S.length<5)(h:AtS s P (caT S++(nlB++R))):Jo s={ s.to (P++caT S) with ca:=caO s.ca S }:=by
  unfold Jo
  rw [if_pos h.e]
  exact Qft S 5 0 false s P hp (fun i h=>⟨Nat.zero_le _,hi i h⟩) ⟨Nat.zero_le _,fun _=>rfl⟩ hl (fun h=>absurd h hn) h
theorem Qdz{D:ByteArray}{k g n:Int}{hf:Bool}(hz:JS (D++nlB) 0=(k,g,n,hf,(D.size:Int),0,0))(h:AtS s P (D++(nlB++R))):XM s={ s.to (P++D) with ki:=k,go:=g,n:=n,hf:=hf }:=by
  have X:(JS ((D++nlB)++R) 0).1=k∧(JS ((D++nlB)++R) 0).2.1=g∧(JS ((D++nlB)++R) 0).2.2.1=n∧(JS ((D++nlB)++R) 0).2.2.2.1=hf∧(JS ((D++nlB)++R) 0).2.2.2.2.1=(D.size:Int)∧(JS ((D++nlB)++R) 0).2.2.2.2.2.2=0:=by
    have E:∀ t,XM (Zc t)={ Zc t with ki:=(JS t 0).1,go:=(JS t 0).2.1,n:=(JS t 0).2.2.1,hf:=(JS t 0).2.2.2.1,a:=(JS t 0).2.2.2.2.1,e:=(JS t 0).2.2.2.2.2.2 }:=fun t=>rfl
    have e0:=E (D++nlB)
    rw [hz] at e0
    have hs:=Qn D nlB
    have hn:nlB.size=1:=rfl
    have G:=jF.goes (Zc (D++nlB)) R rfl (Int.le_refl _) (by show (0:Int)≤((D++nlB).size:Int);omega)
    have z:(XM (Zc (D++nlB))).e=0:=by rw [e0]
    rcases G.ok z with q|⟨q,_⟩
    · have e1:XM (Zc ((D++nlB)++R))=(XM (Zc (D++nlB))).more R:=q
      have e2:=E ((D++nlB)++R)
      rw [e1,e0] at e2
      exact ⟨(congrArg TS.ki e2).symm,(congrArg TS.go e2).symm,(congrArg TS.n e2).symm,(congrArg TS.hf e2).symm,(congrArg TS.a e2).symm,(congrArg TS.e e2).symm⟩
    · rw [e0] at q
      have q2:(D.size:Int)=((D++nlB).size:Int):=q
      omega
  obtain ⟨x1,x2,x3,x4,x5,x6⟩:=X
  have e:JS s.t s.a=shS P (JS ((D++nlB)++R) 0):=by
    rw [h.t,h.a,← ByteArray.append_assoc (a:=D)]
    have:=Qdq P ((D++nlB)++R) (a:=0) (Int.le_refl _) (by omega)
    rw [Int.add_zero] at this
    exact this
  unfold XM
  rw [if_pos h.e,e]
  unfold shS
  dsimp only
  rw [x1,x2,x3,x4,x5,x6]
  unfold TS.to
  rw [Qn];rfl
theorem Qao:∀ (l r:List UInt8),(∀ c∈l,c≠10)→Lib.indexByte (l++10::r) 10=l.length
  | [],r,_=>by show Lib.indexByte (10::r) 10=_;unfold Lib.indexByte;simp
  |c::l,r,h=>by
    have hc:=h c (List.mem_cons_self ..)
    have ih:=Qao l r (fun x hx=>h x (List.mem_cons_of_mem _ hx))
    show Lib.indexByte (c::(l++10::r)) 10=_
    unfold Lib.indexByte
    rw [ih,if_neg (by simpa using hc),if_neg (by simp)]
    simp
theorem QdA{rd:ByteArray→List Int×Int×Int}{D:ByteArray}{b:List Int}(hz:rd D=(b,(D.size:Int),0))(hn:∀ c∈D.data.toList,c≠10)(h:AtS s P (D++(nlB++R))):ZV rd s={ s.to (P++(D++nlB)) with b:=b }:=by
  have hf:lfZ s.t s.a=D.size:=by
    rw [h.t,h.a]
    unfold lfZ
    rw [Int.toNat_natCast,show (P++(D++(nlB++R))).data.toList.drop P.size=D.data.toList++(10::R.data.toList) by simp [show nlB.data.toList=[10] from rfl]]
    rw [Qao _ _ hn];simp
  have hl:Jl s.t s.a=(D,((P++(D++nlB)).size:Int),0,0):=by
    unfold Jl
    rw [hf,if_neg (by omega)]
    rw [h.t,h.a]
    rw [show ((P.size:Int)+(D.size:Int)).toNat=P.size+D.size by omega,Int.toNat_natCast]
    have hx:(P++(D++(nlB++R))).extract P.size (P.size+D.size)=D:=by
      apply ByteArray.ext
      apply Array.ext'
      simp
      rw [List.drop_of_length_le (l:=P.data.toList) (by simp),List.take_nil,List.nil_append,List.take_of_length_le (by simp)]
    rw [hx,Qn,Qn,show nlB.size=1 from rfl]
    simp only [Prod.mk.injEq,true_and,and_true]
    omega
  unfold ZV
  rw [if_pos h.e,hl]
  dsimp only
  rw [hz]
  rfl
end
set_option maxHeartbeats 40000000
set_option maxRecDepth 100000
open Go.RowKit
set_option linter.unusedVariables false
set_option linter.unusedSimpArgs false
section
variable {s y:TS} {P u v w R T o V:ByteArray} {L:List Nat} {i d:Nat} {x:TS→TS}
theorem AtS.self(h:AtS s P u):s.to P=s:=by
  obtain ⟨_,h2,h3⟩:=h
  unfold TS.to
  rw [← h2,← h3]
theorem QdB(hi:i∈L):wd (L.map Jj) (L.idxOf i)=Jj i∧L.idxOf i<(L.map Jj).length∧L.getD (L.idxOf i) 0=i:=by
  have hj:=List.idxOf_lt_length_of_mem hi
  have hg:L[L.idxOf i]?=some i:=by rw [List.getElem?_eq_getElem hj,List.getElem_idxOf]
  refine ⟨?_,by rw [List.length_map];exact hj,by rw [List.getD_eq_getElem?_getD,hg];rfl⟩
  unfold wd nt
  rw [List.getD_eq_getElem?_getD,List.getElem?_map,hg];rfl
structure Upd (x:TS→TS):Prop where
  to:∀ s Q,(x s).to Q=x (s.to Q)
  t:∀ s,(x s).t=s.t
  a:∀ s,(x s).a=s.a
  e:∀ s,(x s).e=s.e
theorem QeE(hL:Opts L)(hi:i∈L)(hx:Upd x)(hopt:∀ (s:TS) (P:ByteArray),AtS s P (V++(nlB++R))→Vx i s=x (s.to (P++V)))(h:AtS s P (((opB++(Jj i++V))++nlB)++R)):
    Zo (d+1) L s=Zo d (L.erase i) (x (s.to (P++((opB++(Jj i++V))++nlB)))):=by
  have hne:L≠[]:=fun e=>by rw [e] at hi;cases hi
  have hW:JL L=[Vr,opB]:=by unfold JL;rw [if_neg hne]
  rw [show ((opB++(Jj i++V))++nlB)++R=opB++(Jj i++(V++(nlB++R))) by simp only [ByteArray.append_assoc]] at h
  have h1:=h
  rw [show opB=wd (JL L) 1 by rw [hW];rfl] at h1
  have e1:=jP (JE L) (j:=1) (by rw [hW];decide) h1
  rw [show wd (JL L) 1=opB by rw [hW];rfl] at e1
  obtain ⟨n1,n2,n3⟩:=QdB hi
  have h2:=h.to
  have h2':=h2
  rw [← n1] at h2'
  have e2:=jP (Zx hL hne) n2 h2'
  rw [n1] at e2
  have h3:=h2.to
  have e3:=hopt _ _ h3
  have h4:AtS (x (((s.to (P++opB)).to (P++opB++Jj i)).to (P++opB++Jj i++V))) (P++opB++Jj i++V) (nlB++R):=h3.next (hx.t _) (hx.a _) (hx.e _)
  have e4:=KP h4
  rw [Zo,if_pos h.e,e1]
  dsimp only
  rw [if_neg (by decide)]
  have eo:QF L (s.to (P++opB))=(x (s.to (P++((opB++(Jj i++V))++nlB))),L.erase i):=by
    unfold QF
    rw [e2]
    dsimp only
    rw [if_pos (show ((s.to (P++opB)).to (P++opB++Jj i)).e=0 from rfl),Int.toNat_natCast,n3,e3,e4,hx.to,List.erase_eq_eraseIdx_of_idxOf rfl]
    rw [show P++((opB++(Jj i++V))++nlB)=P++opB++Jj i++V++nlB by simp only [ByteArray.append_assoc]];rfl
  rw [eo]
def Got(T o:ByteArray)(r:List Nat)(s0 y:TS):Prop:=y.t=T ∧ ∃ d L,Zo 9 Vw s0=Zo d L (y.to o)∧Opts L∧(∀ i∈r,i∈L)∧r.length<d
theorem KJ{s0:TS}{r:List Nat}(is:Bool)(hx:Upd x)(hni:i∉r)(h:Got T o (i::r) s0 y)(hT:∃ R,T=Zi is o (Jj i++V)++R)
    (hopt:is=true → ∀ (s:TS) (P R:ByteArray),AtS s P (V++(nlB++R))→Vx i s=x (s.to (P++V))):Got T (Zi is o (Jj i++V)) r s0 (if is then x y else y):=by
  obtain ⟨ht,d,L,e,hL,hr,hd⟩:=h
  cases is with
  |false=>
    rw [if_neg (by decide)]
    show Got T o r s0 y
    exact ⟨ht,d,L,e,hL,fun j hj=>hr j (List.mem_cons_of_mem _ hj),by simp at hd;omega⟩
  |true=>
    rw [if_pos rfl]
    obtain ⟨R,hR⟩:=hT
    obtain ⟨d,rfl⟩:∃ k,d=k+1:=⟨d-1,by omega⟩
    have ha:AtS (y.to o) o (((opB++(Jj i++V))++nlB)++R):=⟨by show y.t=_;rw [ht,hR,← ByteArray.append_assoc];rfl,rfl,rfl⟩
    rw [QeE hL (hr i (List.mem_cons_self ..)) hx (fun s P h=>hopt rfl s P R h) ha] at e
    refine ⟨by rw [hx.t,ht],d,L.erase i,?_,(List.erase_sublist).trans hL,fun j hj=>?_,by simp at hd;omega⟩
    · rw [e,show (y.to o).to (o++((opB++(Jj i++V))++nlB))=y.to (o++((opB++(Jj i++V))++nlB)) from rfl,← hx.to];rfl
    · exact (List.mem_erase_of_ne (fun e=>hni (by rw [← e];exact hj))).2 (hr j (List.mem_cons_of_mem _ hj))
theorem QeF{s0:TS}(h:Got T o [] s0 y)(hT:T=o++Vr)(h0:s0=JP (JQ (Zc T))):ZZ T=y.to T:=by
  obtain ⟨ht,d,L,e,hL,hr,hd⟩:=h
  obtain ⟨d,rfl⟩:∃ k,d=k+1:=⟨d-1,by simp at hd;omega⟩
  have ha:AtS (y.to o) o (Vr++⟨#[]⟩):=⟨by show y.t=_;rw [ht,hT,je],rfl,rfl⟩
  have hw:wd (JL L) 0=Vr∧0<(JL L).length:=by unfold JL;split <;> exact ⟨rfl,by decide⟩
  have ha':=ha
  rw [← hw.1] at ha'
  have e1:=jP (JE L) hw.2 ha'
  rw [hw.1] at e1
  have e5:Zo (d+1) L (y.to o)=((y.to o).to (o++Vr),L):=by
    rw [Zo,if_pos ha.e,e1]
    dsimp only
    rw [if_pos (by rfl)]
  rw [e5] at e
  unfold ZZ Xw
  rw [← h0,e]
  dsimp only
  rw [if_neg]
  · rw [← hT];rfl
  · rintro ⟨_,h2⟩
    have h3:((o++Vr).size:Int)<(y.t.size:Int):=h2
    rw [ht,hT] at h3
    omega
theorem QdC{D:ByteArray}{k g n:Int}{hf:Bool}(hz:JS (D++nlB) 0=(k,g,n,hf,(D.size:Int),0,0))(h:AtS s P (XV++(D++(nlB++R)))):JP s={ s.to (P++(XV++(D++nlB))) with ki:=k,go:=g,n:=n,hf:=hf }:=by
  have h1:=h.to
  have e2:=Qdz hz h1
  have h3:AtS ({ (s.to (P++XV)).to (P++XV++D) with ki:=k,go:=g,n:=n,hf:=hf }:TS) (P++XV++D) (nlB++R):=h1.next rfl rfl rfl
  unfold JP
  rw [KP h,e2,KP h3]
  rw [show P++(XV++(D++nlB))=P++XV++D++nlB by simp only [ByteArray.append_assoc]];rfl
theorem QdD{rd:ByteArray→List Int×Int×Int}{D:ByteArray}{b:List Int}(j:Nat)(hj:(j=0∧rd=rdZ)∨(j=1∧rd=rlZ))(hz:rd D=(b,(D.size:Int),0))(hn:∀ c∈D.data.toList,c≠10)(h:AtS s P (ZW++(wd XG j++(D++(nlB++R))))):
    JQ s={ s.to (P++(ZW++(wd XG j++(D++nlB)))) with b:=b }:=by
  have h1:=h.to
  have hl:j<XG.length:=by rcases hj with ⟨rfl,_⟩|⟨rfl,_⟩ <;> decide
  have e2:=jP qc hl h1
  have h2:=h1.to
  have e3:=QdA hz hn h2
  rw [show P++(ZW++(wd XG j++(D++nlB)))=P++ZW++wd XG j++(D++nlB) by simp only [ByteArray.append_assoc]]
  unfold JQ
  rw [KP h,e2]
  dsimp only
  rcases hj with ⟨rfl,rfl⟩|⟨rfl,rfl⟩
  · rw [if_pos (by rfl),e3];rfl
  · rw [if_neg (by decide),e3];rfl
end
set_option maxHeartbeats 40000000
set_option maxRecDepth 100000
open Go.RowKit
set_option linter.unusedVariables false
set_option linter.unusedSimpArgs false
theorem Qap{n:Int}(h0:0≤n)(h1:n<10000):Ku n=kE n.toNat:=by
  unfold Ku kE Lib.itoa
  rw [if_neg (by omega),QbM _ (by omega)]
def Qgm(n:Nat):Bool:=decide (JM (kE n++nlB) 0 1 1000=(((kE n).size:Int),(n:Int),0))
theorem QdE:((List.range' 1 500).all Qgm)=true:=by decide +kernel
theorem QdF:((List.range' 501 500).all Qgm)=true:=by decide +kernel
theorem QeG{n:Int}(h0:0<n)(h1:n≤1000):JM (Ku n++nlB) 0 1 1000=(((Ku n).size:Int),n,0):=by
  obtain ⟨m,rfl⟩:∃ m:Nat,n=(m:Int):=⟨n.toNat,by omega⟩
  rw [Qap (by omega) (by omega),Int.toNat_natCast]
  have:Qgm m=true:=by
    rcases Nat.lt_or_ge m 501 with h|h
    · exact List.all_eq_true.1 QdE m (List.mem_range'_1.2 (by omega))
    · exact List.all_eq_true.1 QdF m (List.mem_range'_1.2 (by omega))
  exact of_decide_eq_true this
theorem QeH:((List.range 5).all fun n=>decide (JM (kE n++nlB) 0 0 4=(((kE n).size:Int),(n:Int),0)))=true:=by decide +kernel
theorem QeI{n:Int}(h0:0≤n)(h1:n≤4):JM (Ku n++nlB) 0 0 4=(((Ku n).size:Int),n,0):=by
  obtain ⟨m,rfl⟩:∃ m:Nat,n=(m:Int):=⟨n.toNat,by omega⟩
  rw [Qap (by omega) (by omega),Int.toNat_natCast]
  exact of_decide_eq_true (List.all_eq_true.1 QeH m (List.mem_range.2 (by omega)))
theorem Qgn:((List.range 64).all fun n=>decide (sqZ (Kb n) 0=(((Kb n).size:Int),(n:Int),0)))=true:=by decide +kernel
theorem QeJ{n:Int}(h0:0≤n)(h1:n<64):sqZ (Kb n) 0=(((Kb n).size:Int),n,0):=by
  obtain ⟨m,rfl⟩:∃ m:Nat,n=(m:Int):=⟨n.toNat,by omega⟩
  exact of_decide_eq_true (List.all_eq_true.1 Qgn m (List.mem_range.2 (by omega)))
def Kg(n:Nat):List Nat:=(List.range 4).filter fun i=>n/2^i%2=1
theorem Qgo:((List.range 16).all fun n=>decide (Ji.f 30000 n=some (caT (Kg n)))&&(decide (caO 0 (Kg n)=n)&&(decide (Kg n=[]→n=0)&&decide ((caT (Kg n)).size≤4))))=true:=by decide +kernel
theorem jf{n:Int}(h0:0≤n)(h1:n≤15):Ji.f 30000 n=some (caT (Kg n.toNat))∧caO 0 (Kg n.toNat)=n∧(0<n→Kg n.toNat≠[])∧(caT (Kg n.toNat)).size≤4:=by
  obtain ⟨m,rfl⟩:∃ m:Nat,n=(m:Int):=⟨n.toNat,by omega⟩
  have:=List.all_eq_true.1 Qgo m (List.mem_range.2 (by omega))
  simp only [Bool.and_eq_true,decide_eq_true_eq] at this
  obtain ⟨a,b,c,d⟩:=this
  rw [Int.toNat_natCast]
  exact ⟨a,b,fun h e=>by have:=c e;omega,d⟩
theorem QeK(n:Nat):(Kg n).Pairwise (· < ·):=List.Pairwise.filter _ (by decide)
theorem QeL(n:Nat):∀ i∈Kg n,i<4:=fun i hi=>List.mem_range.1 (List.mem_filter.1 hi).1
theorem QdG(n:Nat):(Kg n).length<5:=Nat.lt_of_le_of_lt (List.length_filter_le _ _) (by decide)
def stW(k g n:Nat)(h:Bool):Bool:=match Jw.f k g n h with
  |some (t,true)=>decide (JS (t++nlB) 0=((k:Int),(g:Int),(n:Int),h,(t.size:Int),0,0))&&decide (t.size≤100)
  |some (_,false)=>true
  |none=>false
theorem QeM:((List.range 9).all fun k=>(List.range 3).all fun g=>(List.range' 0 13).all fun n=>[true,false].all fun h=>stW k g n h)=true:=by decide +kernel
theorem QeN:((List.range 9).all fun k=>(List.range 3).all fun g=>(List.range' 13 13).all fun n=>[true,false].all fun h=>stW k g n h)=true:=by decide +kernel
theorem QeO:((List.range 9).all fun k=>(List.range 3).all fun g=>(List.range' 26 13).all fun n=>[true,false].all fun h=>stW k g n h)=true:=by decide +kernel
theorem QeP:((List.range 9).all fun k=>(List.range 3).all fun g=>(List.range' 39 13).all fun n=>[true,false].all fun h=>stW k g n h)=true:=by decide +kernel
theorem QeQ:((List.range 9).all fun k=>(List.range 3).all fun g=>(List.range' 52 13).all fun n=>[true,false].all fun h=>stW k g n h)=true:=by decide +kernel
theorem Qgp{k g n:Nat}(h:Bool)(hk:k<9)(hg:g<3)(hn:n<65):stW k g n h=true:=by
  have P:∀ {a:Nat},((List.range 9).all fun k=>(List.range 3).all fun g=>(List.range' a 13).all fun n=>[true,false].all fun h=>stW k g n h)=true→a≤n→n<a+13→stW k g n h=true:=fun H h0 h1=>by
    simp only [List.all_eq_true,List.mem_range,List.mem_range'_1] at H
    exact H k hk g hg n ⟨h0,h1⟩ h (by cases h <;> simp)
  rcases (show n<13∨(13≤n∧n<26)∨(26≤n∧n<39)∨(39≤n∧n<52)∨52≤n by omega) with c|c|c|c|c
  · exact P QeM (by omega) (by omega)
  · exact P QeN (by omega) (by omega)
  · exact P QeO (by omega) (by omega)
  · exact P QeP (by omega) (by omega)
  · exact P QeQ (by omega) (by omega)
theorem QgW{k g n:Int}{h:Bool}(hr:Jk.f k g n h=some true):1≤k∧k≤8∧0≤g∧g≤2∧0≤n∧n≤64:=by
  unfold Jk.f at hr
  (repeat' split at hr) <;> first|(simp at hr;done)|omega
theorem QdH(k g n:Int)(h:Bool):(∃ t,Jw.f k g n h=some (t,true)∧JS (t++nlB) 0=(k,g,n,h,(t.size:Int),0,0)∧t.size≤100) ∨ ∃ t,Jw.f k g n h=some (t,false):=by
  obtain ⟨r,hr⟩:=jJ k g n h
  cases r with
  |false=>right;exact ⟨⟨#[]⟩,by unfold Jw.f;rw [hr];rfl⟩
  |true=>
    obtain ⟨h1,h2,h3,h4,h5,h6⟩:=QgW hr
    obtain ⟨k,rfl⟩:∃ m:Nat,k=(m:Int):=⟨k.toNat,by omega⟩
    obtain ⟨g,rfl⟩:∃ m:Nat,g=(m:Int):=⟨g.toNat,by omega⟩
    obtain ⟨n,rfl⟩:∃ m:Nat,n=(m:Int):=⟨n.toNat,by omega⟩
    have S:=Qgp (k:=k) (g:=g) (n:=n) h (by omega) (by omega) (by omega)
    unfold stW at S
    split at S
    · rename_i t e
      simp only [Bool.and_eq_true,decide_eq_true_eq] at S
      exact .inl ⟨t,e,S⟩
    · rename_i t e
      exact .inr ⟨t,e⟩
    · cases S
structure RightT (s:TS) (sb:ByteArray):Prop where
  men:Men s.b
  fw:Qy.f 30000 s.b=some (wrT s.b 7,0)
  sw:Jw.f s.ki s.go s.n s.hf=some (sb,true)
  sz:JS (sb++nlB) 0=(s.ki,s.go,s.n,s.hf,(sb.size:Int),0,0)
  ss:sb.size≤100
  tu:s.tu=0∨s.tu=1
  ca:0≤s.ca∧s.ca≤15
  ep:s.ep = -1∨(0≤s.ep∧s.ep<64)
  mx:0≤s.mx∧s.mx≤1000
  rt:-1≤s.rt∧s.rt≤4
theorem QdI(n:Int):JK.f n=some (if n=0∨n=1 then 1-n else -1):=by
  unfold JK.f
  by_cases h0:n=0
  · subst h0;decide +kernel
  · by_cases h1:n=1
    · subst h1;decide +kernel
    · rw [if_neg h0,if_neg h1,if_neg (by omega)]
theorem Qbv(s:TS)(hb:B8 s.b):JO.f 30000 s.b s.tu s.ca s.ep s.ki s.go s.n s.hf s.tr s.se s.mx s.rt=some false ∨
    (JO.f 30000 s.b s.tu s.ca s.ep s.ki s.go s.n s.hf s.tr s.se s.mx s.rt=some true ∧ ∃ sb,RightT s sb):=by
  unfold JO.f
  rcases QdH s.ki s.go s.n s.hf with ⟨sb,e,sz,ss⟩|⟨sb,e⟩
  · rw [e]
    simp only [Option.bind_some]
    rw [if_pos trivial]
    rcases vC hb (k:=30000) (by omega) with ⟨hm,hf⟩|hf
    · have hB:QB.f 30000 s.b=some true:=by
        have R:=KX hb 64 0 30000 (by omega) (by omega)
        rw [show ((0:Nat):Int)=0 from rfl] at R
        unfold Qy.f at hf
        unfold QB.f at hf ⊢
        rw [R] at hf ⊢
        cases hr:rgF s.b 64 0 with
        |true=>rfl
        |false=>rw [hr] at hf;simp at hf
      rw [hB]
      simp only [Option.bind_some]
      rw [if_pos trivial,QdI]
      simp only [Option.bind_some]
      by_cases tu:s.tu=0∨s.tu=1
      · rw [if_pos tu,if_pos (by omega)]
        by_cases c1:s.ca≥0
        · rw [if_pos c1]
          by_cases c2:s.ca≤15
          · rw [if_pos c2]
            have fin:(s.ep = -1∨(0≤s.ep∧s.ep<64))→((if s.mx≥0 then (if s.mx≤1000 then (if s.rt≥(-1) then (some (decide (s.rt≤4))) else (some false)) else (some false)) else (some false))=some false) ∨
                (((if s.mx≥0 then (if s.mx≤1000 then (if s.rt≥(-1) then (some (decide (s.rt≤4))) else (some false)) else (some false)) else (some false))=some true) ∧ ∃ sb,RightT s sb):=fun ep=>by
              by_cases m0:s.mx≥0
              · by_cases m1:s.mx≤1000
                · by_cases r0:s.rt≥(-1)
                  · by_cases r1:s.rt≤4
                    · rw [if_pos m0,if_pos m1,if_pos r0,decide_eq_true r1]
                      exact .inr ⟨rfl,sb,hm,hf,e,sz,ss,tu,⟨c1,c2⟩,ep,⟨m0,m1⟩,r0,r1⟩
                    · rw [if_pos m0,if_pos m1,if_pos r0,decide_eq_false r1];exact .inl rfl
                  · rw [if_pos m0,if_pos m1,if_neg r0];exact .inl rfl
                · rw [if_pos m0,if_neg m1];exact .inl rfl
              · rw [if_neg m0];exact .inl rfl
            by_cases c3:s.ep=(-1)
            · rw [if_pos c3];exact fin (.inl c3)
            · rw [if_neg c3]
              have hq:JD.f s.ep=some (decide (0≤s.ep∧s.ep<64)):=by
                unfold JD.f
                by_cases q:s.ep≥0
                · rw [if_pos q];simp [show 0≤s.ep from q]
                · rw [if_neg q];simp;omega
              rw [hq]
              simp only [Option.bind_some]
              by_cases q:0≤s.ep∧s.ep<64
              · rw [decide_eq_true q,if_pos rfl];exact fin (.inr q)
              · rw [decide_eq_false q,if_neg (by decide)];exact .inl rfl
          · rw [if_neg c2];exact .inl rfl
        · rw [if_neg c1];exact .inl rfl
      · rw [if_neg tu,if_neg (by decide)];exact .inl rfl
    · have hB:QB.f 30000 s.b=some false:=by
        have R:=KX hb 64 0 30000 (by omega) (by omega)
        rw [show ((0:Nat):Int)=0 from rfl] at R
        unfold Qy.f at hf
        unfold QB.f at hf ⊢
        rw [R] at hf ⊢
        cases hr:rgF s.b 64 0 with
        |true=>
          exfalso
          rw [hr] at hf
          simp only [Option.bind_some,if_true] at hf
          rw [Qfs (fun j=>Qdt hb.1 64 0 (by omega) hr j (by omega)) (by omega)] at hf
          simp at hf
        |false=>rfl
      rw [hB]
      exact .inl rfl
  · rw [e]
    exact .inl rfl
set_option maxHeartbeats 40000000
set_option maxRecDepth 100000
open Go.RowKit
set_option linter.unusedVariables false
set_option linter.unusedSimpArgs false
def ky(s:TS)(H cs:ByteArray):ByteArray:=
  Zi (decide (0≤s.rt)) (Zi (decide (0≤s.ep)) (Zi (decide (0<s.ca)) (Zi (decide (0<s.mx)) (Zi (s.tu != XR s.ki s.go s.n s.hf) (Zi s.se (Zi s.tr H (Jj 6++⟨#[]⟩)) (Jj 4++⟨#[]⟩)) (Jj 5++(spB++Vg s.tu))) (Jj 2++(spB++Ku s.mx))) (Jj 0++(spB++cs))) (Jj 1++(spB++Kb s.ep))) (Jj 3++(spB++Ku s.rt))
theorem zy(s:TS)(fb sb cs:ByteArray):vc s fb sb cs=ky s (KH fb sb) cs++Vr:=by
  unfold vc ky
  rw [show va=Jj 6++⟨#[]⟩ from rfl,show vb=Jj 4++⟨#[]⟩ from rfl,show QaR=Jj 5++spB from rfl,show xN=Jj 2++spB from rfl,show xO=Jj 0++spB from rfl,show epB=Jj 1++spB from rfl,show xP=Jj 3++spB from rfl]
  simp only [ByteArray.append_assoc]
theorem Zy{T o t:ByteArray}{is:Bool}(h:∃ R,T=Zi is o t++R):∃ R,T=o++R:=by
  obtain ⟨R,h⟩:=h
  unfold Zi at h
  cases is with
  |false=>exact ⟨R,h⟩
  |true=>exact ⟨((opB++t)++nlB)++R,by rw [h,if_pos rfl,ByteArray.append_assoc]⟩
def y0(s:TS)(T:ByteArray):TS:={ Zc T with b:=s.b,ki:=s.ki,go:=s.go,n:=s.n,hf:=s.hf }
theorem Qbw{s:TS}{sb:ByteArray}(h:RightT s sb){T H:ByteArray}(hT:T=ky s H (caT (Kg s.ca.toNat))++Vr)(hs:JP (JQ (Zc T))=(y0 s T).to H):
    ∃ y:TS,ZZ T=y.to T∧y.b=s.b∧Qai (y.to T)=s.tu∧y.ca=s.ca∧y.ep=s.ep∧y.ki=s.ki∧y.go=s.go∧y.n=s.n∧y.hf=s.hf∧y.tr=s.tr∧y.se=s.se∧y.mx=s.mx∧y.rt=s.rt:=by
  have G0:Got T H [6,4,5,2,0,1,3] (JP (JQ (Zc T))) (y0 s T):=⟨rfl,9,Vw,by rw [hs],List.Sublist.refl _,by decide,by decide⟩
  obtain ⟨b1,B1⟩:∃ b,s.tr=b:=⟨_,rfl⟩
  obtain ⟨b2,B2⟩:∃ b,s.se=b:=⟨_,rfl⟩
  obtain ⟨b3,B3⟩:∃ b,(s.tu != XR s.ki s.go s.n s.hf)=b:=⟨_,rfl⟩
  obtain ⟨b4,B4⟩:∃ b,decide (0<s.mx)=b:=⟨_,rfl⟩
  obtain ⟨b5,B5⟩:∃ b,decide (0<s.ca)=b:=⟨_,rfl⟩
  obtain ⟨b6,B6⟩:∃ b,decide (0≤s.ep)=b:=⟨_,rfl⟩
  obtain ⟨b7,B7⟩:∃ b,decide (0≤s.rt)=b:=⟨_,rfl⟩
  unfold ky at hT
  rw [B1,B2,B3,B4,B5,B6,B7] at hT
  have R7:∃ R,T=_++R:=⟨Vr,hT⟩
  have R6:=Zy R7
  have R5:=Zy R6
  have R4:=Zy R5
  have R3:=Zy R4
  have R2:=Zy R3
  have R1:=Zy R2
  have G1:=KJ (x:=fun s=>{ s with tr:=true }) b1 ⟨fun _ _=>rfl,fun _=>rfl,fun _=>rfl,fun _=>rfl⟩ (by decide) G0 R1 (fun _ s P R ha=>by
    rw [je,ha.self];rfl)
  have G2:=KJ (x:=fun s=>{ s with se:=true }) b2 ⟨fun _ _=>rfl,fun _=>rfl,fun _=>rfl,fun _=>rfl⟩ (by decide) G1 R2 (fun _ s P R ha=>by
    rw [je,ha.self];rfl)
  have G3:=KJ (x:=fun q=>{ q with sd:=s.tu }) b3 ⟨fun _ _=>rfl,fun _=>rfl,fun _=>rfl,fun _=>rfl⟩ (by decide) G2 R3 (fun _ q P R ha=>by
    have hv:spB++Vg s.tu=wd Vi s.tu.toNat∧s.tu.toNat<Vi.length∧((s.tu.toNat:Nat):Int)=s.tu:=by
      rcases h.tu with e|e <;> rw [e] <;> exact ⟨rfl,by decide,rfl⟩
    rw [hv.1] at ha ⊢
    show ZU q=_
    unfold ZU
    rw [jP qb hv.2.1 ha]
    dsimp only
    rw [hv.2.2])
  have G4:=KJ (x:=fun q=>{ q with mx:=s.mx }) b4 ⟨fun _ _=>rfl,fun _=>rfl,fun _=>rfl,fun _=>rfl⟩ (by decide) G3 R4 (fun hb q P R ha=>by
    have m0:0<s.mx:=of_decide_eq_true (B4.trans hb)
    rw [ByteArray.append_assoc] at ha
    show maxR q=_
    unfold maxR
    rw [KP ha,Qdx (by omega) (QeG m0 h.mx.2) ha.to,← ByteArray.append_assoc];rfl)
  have G5:=KJ (x:=fun q=>{ q with ca:=caO q.ca (Kg s.ca.toNat) }) b5 ⟨fun _ _=>rfl,fun _=>rfl,fun _=>rfl,fun _=>rfl⟩ (by decide) G4 R5 (fun hb q P R ha=>by
    have m0:0<s.ca:=of_decide_eq_true (B5.trans hb)
    rw [ByteArray.append_assoc] at ha
    show Jo (Qx spB q)=_
    rw [KP ha,Qbu (QeK _) (QeL _) ((jf h.ca.1 h.ca.2).2.2.1 m0) (QdG _) ha.to,← ByteArray.append_assoc];rfl)
  have G6:=KJ (x:=fun q=>{ q with ep:=s.ep }) b6 ⟨fun _ _=>rfl,fun _=>rfl,fun _=>rfl,fun _=>rfl⟩ (by decide) G5 R6 (fun hb q P R ha=>by
    have m0:0≤s.ep:=of_decide_eq_true (B6.trans hb)
    have m1:s.ep<64:=by rcases h.ep with e|e <;> omega
    rw [ByteArray.append_assoc] at ha
    show sqR (Qx spB q)=_
    rw [KP ha,QgV (QeJ m0 m1) ha.to,← ByteArray.append_assoc];rfl)
  have G7:=KJ (x:=fun q=>{ q with rt:=s.rt }) b7 ⟨fun _ _=>rfl,fun _=>rfl,fun _=>rfl,fun _=>rfl⟩ (by decide) G6 R7 (fun hb q P R ha=>by
    have m0:0≤s.rt:=of_decide_eq_true (B7.trans hb)
    rw [ByteArray.append_assoc] at ha
    show Zr q=_
    unfold Zr
    rw [KP ha,Qdx (by omega) (QeI m0 h.rt.2) ha.to,← ByteArray.append_assoc];rfl)
  refine ⟨_,QeF G7 hT rfl,?_⟩
  have c1:s.ca=0∨0<s.ca:=by have:=h.ca;omega
  have e1:b5=true→caO 0 (Kg s.ca.toNat)=s.ca:=fun _=>(jf h.ca.1 h.ca.2).2.1
  have f1:b1=s.tr:=B1.symm
  have f2:b2=s.se:=B2.symm
  have f3:b3=false→XR s.ki s.go s.n s.hf=s.tu:=fun e=>by rw [e] at B3;exact (bne_eq_false_iff_eq.mp B3).symm
  have f4:b4=false→s.mx=0:=fun e=>by rw [e] at B4;have:=of_decide_eq_false B4;have:=h.mx;omega
  have f5:b5=false→s.ca=0:=fun e=>by rw [e] at B5;have:=of_decide_eq_false B5;have:=h.ca;omega
  have f6:b6=false→s.ep = -1:=fun e=>by rw [e] at B6;have:=of_decide_eq_false B6;rcases h.ep with q|q <;> omega
  have f7:b7=false→s.rt = -1:=fun e=>by rw [e] at B7;have:=of_decide_eq_false B7;have:=h.rt;omega
  have t0:¬ s.tu<0:=by rcases h.tu with e|e <;> omega
  clear G0 G1 G2 G3 G4 G5 G6 G7 R1 R2 R3 R4 R5 R6 R7 hT hs B1 B2 B3 B4 B5 B6 B7
  refine ⟨?_,?_,?_,?_,?_,?_,?_,?_,?_,?_,?_,?_⟩
  · cases b1 <;> cases b2 <;> cases b3 <;> cases b4 <;> cases b5 <;> cases b6 <;> cases b7 <;> rfl
  · cases b1 <;> cases b2 <;> cases b3 <;> cases b4 <;> cases b5 <;> cases b6 <;> cases b7 <;> first|exact if_neg t0|exact (if_pos (show (-1:Int)<0 by decide)).trans (f3 rfl)
  · cases b1 <;> cases b2 <;> cases b3 <;> cases b4 <;> cases b5 <;> cases b6 <;> cases b7 <;> first|exact e1 rfl|exact (f5 rfl).symm
  · cases b1 <;> cases b2 <;> cases b3 <;> cases b4 <;> cases b5 <;> cases b6 <;> cases b7 <;> first|rfl|exact (f6 rfl).symm
  · cases b1 <;> cases b2 <;> cases b3 <;> cases b4 <;> cases b5 <;> cases b6 <;> cases b7 <;> rfl
  · cases b1 <;> cases b2 <;> cases b3 <;> cases b4 <;> cases b5 <;> cases b6 <;> cases b7 <;> rfl
  · cases b1 <;> cases b2 <;> cases b3 <;> cases b4 <;> cases b5 <;> cases b6 <;> cases b7 <;> rfl
  · cases b1 <;> cases b2 <;> cases b3 <;> cases b4 <;> cases b5 <;> cases b6 <;> cases b7 <;> rfl
  · cases b1 <;> cases b2 <;> cases b3 <;> cases b4 <;> cases b5 <;> cases b6 <;> cases b7 <;> exact f1
  · cases b1 <;> cases b2 <;> cases b3 <;> cases b4 <;> cases b5 <;> cases b6 <;> cases b7 <;> exact f2
  · cases b1 <;> cases b2 <;> cases b3 <;> cases b4 <;> cases b5 <;> cases b6 <;> cases b7 <;> first|rfl|exact (f4 rfl).symm
  · cases b1 <;> cases b2 <;> cases b3 <;> cases b4 <;> cases b5 <;> cases b6 <;> cases b7 <;> first|rfl|exact (f7 rfl).symm
end Go.Proofs.YtaipghemddjecaaGreatDoor
