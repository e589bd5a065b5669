import Derived.Test.YtaipghemddjecaaGreatDoorGwy
import Derived.Laws.BytesArg
import Derived.Test.YtaipghemddjecaaGreatDoorTxy
namespace Go.Proofs.YtaipghemddjecaaGreatDoor
set_option maxHeartbeats 40000000
set_option maxRecDepth 100000
open Go.RowKit
set_option linter.unusedVariables false
section
variable {P:Program} {w:World} {o:Oper} {ev:Operand→Value}
theorem QdL{B e':Nat}{v:Value}{l:List Int}(h:Own w B e' v (l.map (Value.int .u8)))(hne:l≠[])(src dst e:TypeId)(hs:P.underlying src=some (.slice e))(he:P.underlying e=some (.int .u8))(hd:P.underlying dst=some .string)
    (x:Operand) (ho:o.op=.convert src dst x) (hx:ev x=v):(execOp ev o).run P w=.ok (.value (.string (strOfNums l))) w:=by
  rcases h.form with ⟨rfl,h0⟩|⟨g,cap,cur,rfl,hb,hh,hn,hm,hz,ht⟩
  · exact absurd (by simpa using h0) hne
  · have hc:∀ i,i<l.length→w.cell? ⟨g,0+i,none⟩=some (.int .u8 (l.getD i 0)):=fun i hi=>by
      obtain ⟨g',cap',he',_,_,_,hc'⟩:=h.cell i (by rw [List.length_map];exact hi)
      simp only [Value.slice.injEq,Option.some.injEq,Addr.mk.injEq] at he'
      obtain ⟨⟨rfl,_⟩,_⟩:=he'
      rw [Nat.zero_add,hc',List.getElem_map,List.getD_eq_getElem?_getD,List.getElem?_eq_getElem hi]
      rfl
    have:=run_convert_bytes_arg (P:=P) w src e hs he g 0 l.length cap l rfl hc dst hd
    unfold execOp
    simp only [ho,hx,Sem.run_bind,List.length_map,this,Result.andThen_ok,Sem.run_pure]
end
set_option maxHeartbeats 40000000
set_option maxRecDepth 100000
open Go.RowKit
set_option linter.unusedVariables false
set_option linter.unusedSimpArgs false
theorem qL{ws:List ByteArray}(hw:Jq ws=true){s:TS}(h0:0≤s.a)(h1:s.a≤s.t.size)(he:s.e=0)(h:(QS ws s).2.e≠0):(QS ws s).1=0:=by
  unfold QS at h ⊢
  rw [if_pos he] at h ⊢
  rcases ZJ h0 h1 hw with ⟨k,hk,hh,hz,e⟩|⟨hno,e⟩
  · exact absurd (show (QU s.t s.a ws).2.2=0 by rw [e]) h
  · show (QU s.t s.a ws).2.1=0
    rw [e]
theorem xb{ws:List ByteArray}(hw:Jq ws=true){s:TS}(h0:0≤s.a)(h1:s.a≤s.t.size)(he:s.e=0)(h:(QS ws s).2.e=0):s.a<(QS ws s).2.a∧0≤(QS ws s).1∧(QS ws s).1<(ws.length:Int):=by
  unfold QS at h ⊢
  rw [if_pos he] at h ⊢
  exact (XB h0 h1 hw).2.2.2.1 h
theorem jM{s:TS}(h0:0≤s.a)(h1:s.a≤s.t.size)(he:s.e=0):(QS (JL []) s).1=0:=by
  by_cases h:(QS (JL []) s).2.e=0
  · have:=xb (JE []) h0 h1 he h
    have h2:(JL []).length=1:=rfl
    omega
  · exact qL (JE []) h0 h1 he h
def Qbo(i:Nat)(s:TS):TS:=if s.e=0 then Qx nlB (Vx i s) else s
theorem Qbp(i:Nat):GoodF (Qbo i):=by
  have G:GoodF (fun s=>Qx nlB (Vx i s)):=(Vj i).comp (Xn (w:=nlB) (by decide)).toGoodF
  refine ⟨fun s hs=>?_,fun s m he h0 h1=>?_⟩
  · unfold Qbo;rw [if_neg hs];exact ⟨rfl,rfl,rfl⟩
  · unfold Qbo
    rw [if_pos he,if_pos (show (s.more m).e=0 from he)]
    exact G.goes s m he h0 h1
theorem qM(L:List Nat)(s:TS):(QF L s).1=Qbo (L.getD (QS (L.map Jj) s).1.toNat 0) (QS (L.map Jj) s).2:=by
  unfold QF Qbo
  split <;> rfl
theorem KO{L:List Nat}(hL:Opts L)(hne:L≠[]):GoodF (fun s=>(QF L s).1):=by
  have G:=jd (Zx hL hne) (g:=fun n s=>Qbo (L.getD n.toNat 0) s) (fun n=>Qbp _)
  refine ⟨fun s hs=>?_,fun s m he h0 h1=>?_⟩
  · rw [qM];exact G.off s hs
  · rw [qM,qM];exact G.goes s m he h0 h1
theorem km{L:List Nat}{s:TS}(h:(QF L s).1.e=0):(QS (L.map Jj) s).2.e=0:=by
  unfold QF at h
  split at h
  · rename_i c;exact c
  · rename_i c;exact absurd h c
theorem qV{L:List Nat}{s:TS}(hL:Opts L)(hne:L≠[])(m:ByteArray)(he:s.e=0)(h0:0≤s.a)(h1:s.a≤s.t.size)(h:(QF L s).1.e=0):(QF L (s.more m)).2=(QF L s).2:=by
  have hx:=km h
  have S:=VK (Zx hL hne) m he h0 h1 (.inl hx)
  unfold QF
  rw [S]
  dsimp only
  rw [if_pos hx,if_pos (show ((QS (L.map Jj) s).2.more m).e=0 from hx)]
theorem kn{L:List Nat}{s:TS}(hL:Opts L)(hne:L≠[])(h0:0≤s.a)(h1:s.a≤s.t.size)(he:s.e=0)(h:(QF L s).1.e=0):(QF L s).2.length+1=L.length:=by
  have c:=km h
  have:=(xb (Zx hL hne) h0 h1 he c).2
  rw [List.length_map] at this
  unfold QF
  rw [if_pos c]
  dsimp only
  rw [List.length_eraseIdx,if_pos (by omega)]
  omega
def RF(d:Nat)(L:List Nat)(s:TS):TS:=(Zo d L s).1
theorem xc:GoodF (fun s=>s):=zm (fun _=>⟨rfl,rfl,rfl⟩) (fun _ _=>rfl)
open Classical in
noncomputable def ko (d:Nat) (L:List Nat) (n:Int) (s:TS):TS:=if n=0∨L=[] then s else (if Opts (QF L s).2 then RF d (QF L s).2 (QF L s).1 else (QF L s).1)
open Classical in
theorem Qbq{d:Nat}{L:List Nat}(ih:∀ L,Opts L→GoodF (RF d L))(hL:Opts L)(n:Int):GoodF (ko d L n):=by
  unfold ko
  by_cases c:n=0∨L=[]
  · simp only [if_pos c];exact xc
  · simp only [if_neg c]
    have hne:L≠[]:=fun h=>c (.inr h)
    refine GoodF.dep (f:=fun s=>((QF L s).2,(QF L s).1)) (g:=fun L' s=>if Opts L' then RF d L' s else s) (KO hL hne) (fun L'=>?_) (fun s m he h0 h1 hz=>?_)
    · by_cases h:Opts L'
      · simp only [if_pos h];exact ih L' h
      · simp only [if_neg h];exact xc
    · have G:=(KO hL hne).goes s m he h0 h1
      rcases G.ok hz with q|q
      · exact .inl ⟨qV hL hne m he h0 h1 hz,q⟩
      · exact .inr q
theorem Qfr{d:Nat}{L:List Nat}{s:TS}(hL:Opts L)(h0:0≤s.a)(h1:s.a≤s.t.size)(he:s.e=0):RF (d+1) L s=ko d L (QS (JL L) s).1 (QS (JL L) s).2:=by
  unfold RF ko
  rw [Zo,if_pos he]
  by_cases c:(QS (JL L) s).1=0
  · rw [if_pos c,if_pos (.inl c)]
  · have hne:L≠[]:=fun h=>by subst h;exact c (jM h0 h1 he)
    rw [if_neg c,if_neg (fun h=>h.elim c hne),if_pos (Kz _ hL)]
    rfl
theorem Qaj:∀ (d:Nat) (L:List Nat),Opts L→GoodF (RF d L)
  |0,L,_=>xc
  |d+1,L,hL=>by
    have G:=jd (JE L) (g:=ko d L) (fun n=>Qbq (Qaj d) hL n)
    refine ⟨fun s hs=>?_,fun s m he h0 h1=>?_⟩
    · unfold RF;rw [VS hs];exact ⟨rfl,rfl,rfl⟩
    · have hs:=Qn s.t m
      rw [Qfr hL h0 h1 he,Qfr (s:=s.more m) hL h0 (by show s.a≤((s.t++m).size:Int);omega) he]
      exact G.goes s m he h0 h1
theorem Qdp{d:Nat}{L:List Nat}{s:TS}(h0:0≤s.a)(h1:s.a=s.t.size)(he:s.e=0):(RF (d+1) L s).e≠0:=by
  have hx:(QS (JL L) s).2.e≠0:=fun h=>by
    have:=xb (JE L) h0 (by omega) he h
    have b:=(VJ (JE L)).toGoodF.bd he h0 (by omega)
    omega
  have hn:=qL (JE L) h0 (by omega) he hx
  unfold RF
  rw [Zo,if_pos he,if_pos hn]
  exact hx
theorem zq(m:ByteArray):∀ (d:Nat) (L:List Nat) (s:TS),Opts L→L.length+2≤d→s.e=0→0≤s.a→s.a≤s.t.size→(RF d L s).e=0→RF d L (s.more m)=(RF d L s).more m
  |0,L,s,_,h,_,_,_,_=>by omega
  |d+1,L,s,hL,hd,he,h0,h1,hz=>by
    have W:=JE L
    unfold RF at hz ⊢
    rw [Zo,if_pos he] at hz
    rw [Zo,Zo,if_pos he,if_pos (show (s.more m).e=0 from he)]
    by_cases c:(QS (JL L) s).1=0
    · rw [if_pos c] at hz ⊢
      have hx:(QS (JL L) s).2.e=0:=hz
      rw [VK W m he h0 h1 (.inl hx)]
      dsimp only
      rw [if_pos c]
    · have hne:L≠[]:=fun h=>by subst h;exact c (jM h0 h1 he)
      have hx:(QS (JL L) s).2.e=0:=by
        by_cases h:(QS (JL L) s).2.e=0
        · exact h
        · exact absurd (qL W h0 h1 he h) c
      have bx:=(VJ W).toGoodF.bd he h0 h1
      rw [if_neg c] at hz ⊢
      rw [VK W m he h0 h1 (.inl hx)]
      dsimp only
      rw [if_neg c]
      generalize hX:(QS (JL L) s).2=X at hx bx hz ⊢
      have hXa:0≤X.a:=by omega
      have hXs:X.a≤X.t.size:=by rw [bx.1];exact bx.2.2.1
      have hy:(QF L X).1.e=0:=by
        by_cases h:(QF L X).1.e=0
        · exact h
        · rw [VS h] at hz;exact absurd hz h
      have G:=(KO hL hne).goes X m hx hXa hXs
      have gY:=(KO hL hne).bd hx hXa hXs
      have hlen:=kn hL hne hXa hXs hx hy
      rcases G.ok hy with q|⟨q1,q2⟩
      · rw [qV hL hne m hx hXa hXs hy,q]
        exact zq m d (QF L X).2 (QF L X).1 (Kz X hL) (by omega) hy (by omega) (by rw [gY.1];exact gY.2.2.1) hz
      · obtain ⟨d,rfl⟩:∃ k,d=k+1:=⟨d-1,by omega⟩
        exact absurd hz (Qdp (d:=d) (L:=(QF L X).2) (by omega) (by rw [gY.1];exact q1) hy)
def Kw(t:ByteArray):TS:=RF 9 Vw (JP (JQ (Zc t)))
theorem zr(t:ByteArray):ZZ t=if (Kw t).e=0∧(Kw t).a<(Kw t).t.size then { Kw t with e:=2 } else Kw t:=rfl
theorem qN:GoodF (fun s=>JP (JQ s)):=Xo.comp Kl
theorem Qgh(t m:ByteArray):GT m (Zc t) (Kw t) (Kw (t++m)):=
  (qN.comp (Qaj 9 Vw (List.Sublist.refl _))).goes (Zc t) m rfl (Int.le_refl _) (by show (0:Int)≤(t.size:Int);omega)
theorem vA(t m:ByteArray)(h:(Kw t).e=0):Kw (t++m)=(Kw t).more m:=by
  have z0:(0:Int)≤(t.size:Int):=by omega
  have G:=qN.goes (Zc t) m rfl (Int.le_refl _) z0
  have b:=qN.bd (s:=Zc t) rfl (Int.le_refl _) z0
  have he:(JP (JQ (Zc t))).e=0:=by
    by_cases q:(JP (JQ (Zc t))).e=0
    · exact q
    · exfalso;unfold Kw RF at h;rw [VS q] at h;exact q h
  have ha:0≤(JP (JQ (Zc t))).a:=b.2.1
  have hsz:(JP (JQ (Zc t))).a≤((JP (JQ (Zc t))).t.size:Int):=by rw [b.1];exact b.2.2.1
  rcases G.ok he with q|⟨q1,q2⟩
  · show RF 9 Vw (JP (JQ ((Zc t).more m)))=_
    rw [q]
    exact zq m 9 Vw _ (List.Sublist.refl _) (by decide) he ha hsz h
  · exact absurd h (Qdp (d:=8) (L:=Vw) ha (by rw [b.1];exact q1) he)
def Vl(t:ByteArray):Int:=if (ZZ t).e=0 then ((ZZ t).t.size:Int) else (ZZ t).a
theorem zs{t:ByteArray}(h:t.size≤1000):Jb.f 30000 t=some (jT (ZZ t)):=by unfold Jb.f;rw [if_pos h]
theorem zt(t:ByteArray):(jT (ZZ t)).2.2.2.2.2.2.2.2.2.2.2.2.1=Vl t:=by unfold jT Vl;split <;> rfl
theorem Qak(t:ByteArray):(jT (ZZ t)).2.2.2.2.2.2.2.2.2.2.2.2.2=(ZZ t).e:=by
  unfold jT
  split
  · rename_i h;rw [h]
  · rfl
theorem zu(t m:ByteArray):((ZZ t).e=2∧(ZZ (t++m)).e=2∧Vl (t++m)=Vl t) ∨
    ((ZZ t).e=1∧Vl t=t.size∧Vl t≤Vl (t++m)) ∨
    ((ZZ t).e=0∧Vl t=t.size∧((m.size=0∧(ZZ (t++m)).e=0)∨(0<m.size∧(ZZ (t++m)).e=2∧Vl (t++m)=Vl t))):=by
  have G:=Qgh t m
  have S:=vA t m
  have hs:=Qn t m
  have et:(Kw t).t=t:=G.t
  have et':(Kw (t++m)).t=t++m:=G.t'
  have le1:(Kw t).a≤(t.size:Int):=G.le
  have le2:(Kw (t++m)).a≤((t++m).size:Int):=G.le'
  have ap:=G.app;have lt:=G.late;have on:(Kw t).e=1→(Kw t).a=(t.size:Int):=G.one
  unfold Vl
  rw [zr,zr,et,et']
  rcases G.ee with e0|e1|e2
  · have Y:=S e0
    have ya:(Kw (t++m)).a=(Kw t).a:=by rw [Y];rfl
    have ye:(Kw (t++m)).e=0:=by rw [Y];exact e0
    by_cases c:(Kw t).a<(t.size:Int)
    · rw [if_pos ⟨e0,c⟩,if_pos ⟨ye,by omega⟩]
      exact .inl ⟨rfl,rfl,by rw [if_neg (show ¬ (2:Int)=0 by decide),if_neg (show ¬ (2:Int)=0 by decide)];exact ya⟩
    · rw [if_neg (fun h=>c h.2)]
      refine .inr (.inr ⟨e0,by rw [if_pos e0,et],?_⟩)
      rw [if_pos e0,et]
      by_cases z:m.size=0
      · rw [if_neg (fun h=>by have:=h.2;omega)]
        exact .inl ⟨z,ye⟩
      · rw [if_pos ⟨ye,by omega⟩]
        exact .inr ⟨by omega,rfl,by rw [if_neg (show ¬ (2:Int)=0 by decide)];dsimp only;omega⟩
  · rw [if_neg (fun h=>by have:=h.1;omega)]
    refine .inr (.inl ⟨e1,by rw [if_neg (by omega)];exact on e1,?_⟩)
    rw [if_neg (show ¬ (Kw t).e=0 by omega),on e1]
    have l:=lt e1
    have l2:(t.size:Int)≤(Kw (t++m)).a:=l
    by_cases c:(Kw (t++m)).e=0∧(Kw (t++m)).a<((t++m).size:Int)
    · rw [if_pos c,if_neg (show ¬ (2:Int)=0 by decide)];exact l2
    · rw [if_neg c]
      split
      · rw [et'];omega
      · exact l2
  · obtain ⟨a1,a2⟩:=ap e2
    rw [if_neg (fun h=>by have:=h.1;omega),if_neg (fun h=>by have:=h.1;omega)]
    exact .inl ⟨e2,a2,by rw [if_neg (by omega),if_neg (by omega)];exact a1⟩
end Go.Proofs.YtaipghemddjecaaGreatDoor
