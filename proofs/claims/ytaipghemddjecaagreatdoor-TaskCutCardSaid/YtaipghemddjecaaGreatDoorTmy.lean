import Derived.Test.YtaipghemddjecaaGreatDoorTry
namespace Go.Proofs.YtaipghemddjecaaGreatDoor
set_option maxHeartbeats 40000000
set_option maxRecDepth 100000
open Go.RowKit
set_option linter.unusedVariables false
set_option linter.unusedSimpArgs false
def TS.more(s:TS)(m:ByteArray):TS:={ s with t:=s.t++m }
structure GT (m:ByteArray) (s x y:TS):Prop where
  t:x.t=s.t
  ge:s.a≤x.a
  le:x.a≤s.t.size
  ee:x.e=0∨x.e=1∨x.e=2
  one:x.e=1→x.a=s.t.size
  two:x.e=2→x.a<s.t.size
  t':y.t=s.t++m
  ge':s.a≤y.a
  le':y.a≤(s.t++m).size
  ee':y.e=0∨y.e=1∨y.e=2
  app:x.e=2→y.a=x.a∧y.e=2
  ok:x.e=0→y=x.more m∨(x.a=s.t.size∧(s.t.size:Int)≤y.a)
  late:x.e=1→(s.t.size:Int)≤y.a
structure GoodF (f:TS→TS):Prop where
  off:∀ s,s.e≠0→(f s).t=s.t∧(f s).a=s.a∧(f s).e=s.e
  goes:∀ s m,s.e=0→0≤s.a→s.a≤s.t.size→GT m s (f s) (f (s.more m))
structure GoodS (f:TS→TS):Prop extends GoodF f where
  strict:∀ s m,s.e=0→0≤s.a→s.a≤s.t.size→(f s).e=0→f (s.more m)=(f s).more m
theorem GoodF.bd{f:TS→TS}(h:GoodF f){s:TS}(he:s.e=0)(h0:0≤s.a)(h1:s.a≤s.t.size):(f s).t=s.t∧s.a≤(f s).a∧(f s).a≤s.t.size∧((f s).e=0∨(f s).e=1∨(f s).e=2)∧((f s).e=1→(f s).a=s.t.size)∧((f s).e=2→(f s).a<s.t.size):=by
  have g:=h.goes s ⟨#[]⟩ he h0 h1
  exact ⟨g.t,g.ge,g.le,g.ee,g.one,g.two⟩
theorem QaY(s:TS)(m:ByteArray):(s.more m).t.size=s.t.size+m.size:=Qn s.t m
theorem GoodF.comp{f g:TS→TS}(hf:GoodF f)(hg:GoodF g):GoodF (fun s=>g (f s)):=by
  refine ⟨fun s hs=>?_,fun s m he h0 h1=>?_⟩
  · obtain ⟨a1,a2,a3⟩:=hf.off s hs
    obtain ⟨b1,b2,b3⟩:=hg.off (f s) (by rw [a3];exact hs)
    exact ⟨b1.trans a1,b2.trans a2,b3.trans a3⟩
  · have G:=hf.goes s m he h0 h1
    have hs:=Qn s.t m
    show GT m s (g (f s)) (g (f (s.more m)))
    generalize f s=X at G ⊢
    generalize f (s.more m)=Y at G ⊢
    have hYa:(0:Int)≤Y.a:=by have:=G.ge';omega
    have hXa:(0:Int)≤X.a:=by have:=G.ge;omega
    have le1:=G.le;have ge1:=G.ge
    -- what becomes of Y
    have hY:(g Y).t=s.t++m∧Y.a≤(g Y).a∧(g Y).a≤(s.t++m).size∧((g Y).e=0∨(g Y).e=1∨(g Y).e=2):=by
      by_cases hy:Y.e=0
      · have b:=hg.bd hy hYa (by rw [G.t'];exact G.le')
        rw [G.t'] at b
        exact ⟨b.1,b.2.1,b.2.2.1,b.2.2.2.1⟩
      · obtain ⟨b1,b2,b3⟩:=hg.off Y hy
        exact ⟨b1.trans G.t',by omega,by rw [b2];exact G.le',by rw [b3];exact G.ee'⟩
    have geY:=G.ge'
    by_cases hx:X.e=0
    · have bx:=hg.bd hx hXa (by rw [G.t];exact G.le)
      rw [G.t] at bx
      rcases G.ok hx with hyx|⟨hxa,hlate⟩
      · subst hyx
        have K:=hg.goes X m hx hXa (by rw [G.t];exact G.le)
        have kok:=K.ok;have klate:=K.late
        rw [G.t] at kok klate
        exact ⟨bx.1,by omega,bx.2.2.1,bx.2.2.2.1,bx.2.2.2.2.1,bx.2.2.2.2.2,hY.1,by omega,hY.2.2.1,hY.2.2.2,K.app,kok,klate⟩
      · exact ⟨bx.1,by omega,bx.2.2.1,bx.2.2.2.1,bx.2.2.2.2.1,bx.2.2.2.2.2,hY.1,by omega,hY.2.2.1,hY.2.2.2,
          fun h=>by have:=bx.2.2.2.2.2 h;omega,fun h=>.inr ⟨by omega,by omega⟩,fun h=>by omega⟩
    · obtain ⟨b1,b2,b3⟩:=hg.off X hx
      refine ⟨b1.trans G.t,by omega,by omega,by rw [b3];exact G.ee,fun h=>by rw [b2];exact G.one (b3▸h),fun h=>by rw [b2];exact G.two (b3▸h),hY.1,by omega,hY.2.2.1,hY.2.2.2,fun h=>?_,fun h=>absurd (b3▸h) hx,fun h=>?_⟩
      · obtain ⟨c1,c2⟩:=G.app (b3▸h)
        obtain ⟨d1,d2,d3⟩:=hg.off Y (by omega)
        exact ⟨by omega,by omega⟩
      · have:=G.late (b3▸h);omega
theorem qr{s:TS}{m:ByteArray}{z z':Int×Int×Int}{same:Prop}(u:TS→TS)(hu:∀ s,(u s).t=s.t∧(u s).a=s.a∧(u s).e=s.e)(h:Goes s.t m s.a z.1 z.2.2 z'.1 z'.2.2 same)
    {x y:TS} (hx:x.t=s.t∧x.a=z.1∧x.e=z.2.2) (hy:y.t=s.t++m∧y.a=z'.1∧y.e=z'.2.2) (hsame:same→y=x.more m):GT m s x y:=by
  obtain ⟨x1,x2,x3⟩:=hx
  obtain ⟨y1,y2,y3⟩:=hy
  refine ⟨x1,by rw [x2];exact h.ge,by rw [x2];exact h.le,by rw [x3];exact h.ee,by rw [x2,x3];exact h.one,by rw [x2,x3];exact h.two,y1,by rw [y2];exact h.ge',by rw [y2];exact h.le',by rw [y3];exact h.ee',fun e=>?_,fun e=>?_,fun e=>?_⟩
  · have:=hsame (h.app (x3▸e))
    rw [this]
    exact ⟨rfl,e⟩
  · rcases h.ok (x3▸e) with q|⟨q1,q2⟩
    · exact .inl (hsame q)
    · exact .inr ⟨by omega,by omega⟩
  · rw [y2];exact h.late (x3▸e)
theorem Xn{w:ByteArray}(hw:0<w.size):GoodS (Qx w):=by
  refine ⟨⟨fun s hs=>?_,fun s m he h0 h1=>?_⟩,fun s m he h0 h1 hz=>?_⟩
  · unfold Qx;rw [if_neg hs];exact ⟨rfl,rfl,rfl⟩
  · unfold Qx
    rw [if_pos he,if_pos (show (s.more m).e=0 from he)]
    refine qr id (fun _=>⟨rfl,rfl,rfl⟩) (QaX (u:=w) m h0 h1 hw) ⟨rfl,rfl,rfl⟩ ⟨rfl,rfl,rfl⟩ (fun h=>?_)
    show TS.at_ (s.more m) (Jv (s.t++m) s.a w)=_
    rw [h];rfl
  · unfold Qx at hz ⊢
    rw [if_pos he] at hz
    rw [if_pos he,if_pos (show (s.more m).e=0 from he)]
    show TS.at_ (s.more m) (Jv (s.t++m) s.a w)=_
    rw [jw m (.inr hz)];rfl
theorem VJ{ws:List ByteArray}(hw:Jq ws=true):GoodS (fun s=>(QS ws s).2):=by
  refine ⟨⟨fun s hs=>?_,fun s m he h0 h1=>?_⟩,fun s m he h0 h1 hz=>?_⟩
  · unfold QS;rw [if_neg hs];exact ⟨rfl,rfl,rfl⟩
  · unfold QS
    rw [if_pos he,if_pos (show (s.more m).e=0 from he)]
    refine qr id (fun _=>⟨rfl,rfl,rfl⟩) (xV (ss:=ws) m h0 h1 hw) ⟨rfl,rfl,rfl⟩ ⟨rfl,rfl,rfl⟩ (fun h=>?_)
    show TS.at_ (s.more m) (QU (s.t++m) s.a ws)=_
    rw [h];rfl
  · unfold QS at hz ⊢
    rw [if_pos he] at hz
    rw [if_pos he,if_pos (show (s.more m).e=0 from he)]
    show TS.at_ (s.more m) (QU (s.t++m) s.a ws)=_
    rw [VI m h0 h1 hw (.inr hz)];rfl
theorem VK{ws:List ByteArray}(hw:Jq ws=true){s:TS}(m:ByteArray)(he:s.e=0)(h0:0≤s.a)(h1:s.a≤s.t.size)(hz:(QS ws s).2.e=0∨(QS ws s).2.e=2):QS ws (s.more m)=((QS ws s).1,(QS ws s).2.more m):=by
  unfold QS at hz ⊢
  rw [if_pos he] at hz
  rw [if_pos he,if_pos (show (s.more m).e=0 from he)]
  show ((QU (s.t++m) s.a ws).2.1,TS.at_ (s.more m) (QU (s.t++m) s.a ws))=_
  rw [VI m h0 h1 hw hz.symm];rfl
theorem QaZ:GoodS ZU:=by
  refine ⟨⟨fun s hs=>?_,fun s m he h0 h1=>?_⟩,fun s m he h0 h1 hz=>?_⟩
  · unfold ZU QS;rw [if_neg hs];exact ⟨rfl,rfl,rfl⟩
  · unfold ZU QS
    rw [if_pos he,if_pos (show (s.more m).e=0 from he)]
    refine qr id (fun _=>⟨rfl,rfl,rfl⟩) (xV (ss:=Vi) m h0 h1 qb) ⟨rfl,rfl,rfl⟩ ⟨rfl,rfl,rfl⟩ (fun h=>?_)
    show ({ TS.at_ (s.more m) (QU (s.t++m) s.a Vi) with sd:=(QU (s.t++m) s.a Vi).2.1 }:TS)=_
    rw [h];rfl
  · have hz':(QS Vi s).2.e=0:=hz
    unfold ZU
    rw [VK qb m he h0 h1 (.inl hz')];rfl
theorem jB{l k:Int}(hl:0≤l∧l≤k∧k≤1000000)(u:Int→TS→TS)(hu:∀ n s,(u n s).t=s.t∧(u n s).a=s.a∧(u n s).e=s.e)(hm:∀ n s m,u n (s.more m)=(u n s).more m):GoodF (fun s=>u (Kr l k s).1 (Kr l k s).2):=by
  refine ⟨fun s hs=>?_,fun s m he h0 h1=>?_⟩
  · unfold Kr;rw [if_neg hs];exact hu _ _
  · unfold Kr
    rw [if_pos he,if_pos (show (s.more m).e=0 from he)]
    refine qr id (fun _=>⟨rfl,rfl,rfl⟩) (xX (least:=l) (most:=k) m h0 h1 hl) (hu _ _) (hu _ _) (fun h=>?_)
    show u (JM (s.t++m) s.a l k).2.1 (TS.at_ (s.more m) (JM (s.t++m) s.a l k))=_
    rw [h]
    exact hm _ (s.at_ (JM s.t s.a l k)) m
theorem QcG:GoodF maxR:=(Xn (w:=spB) (by decide)).toGoodF.comp (jB (l:=1) (k:=1000) (by omega) (fun n s=>{ s with mx:=n }) (fun _ _=>⟨rfl,rfl,rfl⟩) (fun _ _ _=>rfl))
theorem vf:GoodF Zr:=(Xn (w:=spB) (by decide)).toGoodF.comp (jB (l:=0) (k:=4) (by omega) (fun n s=>{ s with rt:=n }) (fun _ _=>⟨rfl,rfl,rfl⟩) (fun _ _ _=>rfl))
theorem QcH:GoodF sqR:=by
  refine ⟨fun s hs=>?_,fun s m he h0 h1=>?_⟩
  · unfold sqR;rw [if_neg hs];exact ⟨rfl,rfl,rfl⟩
  · unfold sqR
    rw [if_pos he,if_pos (show (s.more m).e=0 from he)]
    obtain ⟨n,hn⟩:∃ n:Nat,s.a=n:=⟨s.a.toNat,by omega⟩
    have G:=Qeg (t:=s.t) (n:=n) m (by omega)
    rw [← hn] at G
    refine qr (z:=sqZ s.t s.a.toNat) (z':=sqZ (s.t++m) s.a.toNat) id (fun _=>⟨rfl,rfl,rfl⟩) (by rw [hn,Int.toNat_natCast] at *;exact G) ⟨rfl,rfl,rfl⟩ ⟨rfl,rfl,rfl⟩ (fun h=>?_)
    show ({ TS.at_ (s.more m) (sqZ (s.t++m) s.a.toNat) with ep:=(sqZ (s.t++m) s.a.toNat).2.1 }:TS)=_
    rw [hn,Int.toNat_natCast] at *
    rw [h];rfl
theorem Qeh:GoodF (fun s=>sqR (Qx spB s)):=(Xn (w:=spB) (by decide)).toGoodF.comp QcH
theorem QcI:GoodS (fun s=>{ s with se:=true }):=
  ⟨⟨fun s _=>⟨rfl,rfl,rfl⟩,fun s m he h0 h1=>⟨rfl,Int.le_refl _,h1,.inl he,fun h=>by dsimp only at h;omega,fun h=>by dsimp only at h;omega,rfl,Int.le_refl _,by have:=Qn s.t m;show s.a≤_;omega,.inl he,fun h=>by dsimp only at h;omega,fun _=>.inl rfl,fun h=>by dsimp only at h;omega⟩⟩,fun _ _ _ _ _ _=>rfl⟩
theorem QcJ:GoodS (fun s=>{ s with tr:=true }):=
  ⟨⟨fun s _=>⟨rfl,rfl,rfl⟩,fun s m he h0 h1=>⟨rfl,Int.le_refl _,h1,.inl he,fun h=>by dsimp only at h;omega,fun h=>by dsimp only at h;omega,rfl,Int.le_refl _,by have:=Qn s.t m;show s.a≤_;omega,.inl he,fun h=>by dsimp only at h;omega,fun _=>.inl rfl,fun h=>by dsimp only at h;omega⟩⟩,fun _ _ _ _ _ _=>rfl⟩
set_option maxHeartbeats 40000000
set_option maxRecDepth 100000
open Go.RowKit
set_option linter.unusedVariables false
set_option linter.unusedSimpArgs false
theorem Qei{s:TS}(m:ByteArray)(he:s.e=0)(h1:s.a≤s.t.size):GT m s s (s.more m):=
  ⟨rfl,Int.le_refl _,h1,.inl he,fun h=>by omega,fun h=>by omega,rfl,Int.le_refl _,by have:=Qn s.t m;show s.a≤_;omega,.inl he,fun h=>by omega,fun _=>.inl rfl,fun h=>by omega⟩
theorem QfT{t:ByteArray}{a:Int}{fr:Nat}{any:Bool}(hc:CaOk fr any)(h0:0≤a)(h1:a≤t.size)(h:(QU t a (caW fr any)).2.2=1):a=t.size:=by
  rcases ZJ h0 h1 hc.apart with ⟨k,hk,hh,hz,e⟩|⟨hno,e⟩
  · rw [e] at h;simp at h
  · rw [e] at h
    dsimp only at h
    have hm:=Va (t:=t) (a:=a) (caW fr any) h1 (caW fr any).length
    unfold KR at h
    split at h
    · rename_i q
      rcases (show 0<JN t a (caW fr any) (caW fr any).length∨JN t a (caW fr any) (caW fr any).length=0 by omega) with p|p
      · obtain ⟨j,hj,ej⟩:=xT _ p
        have h2:=Ky (t:=t) (a:=a) (wd (caW fr any) j) h1
        have h3:=Qab hc.le4 hj
        exact absurd (show Jp t a (wd (caW fr any) j)=(wd (caW fr any) j).size by omega) (hno j hj)
      · omega
    · omega
theorem QgL{t:ByteArray}{a:Int}{fr:Nat}{any:Bool}(hc:CaOk fr any)(h0:0≤a)(h1:a≤t.size)(h:(QU t a (caW fr any)).2.2=0)(hn:¬ (QU t a (caW fr any)).2.1=4-(fr:Int)):CaOk (fr+(QU t a (caW fr any)).2.1.toNat+1) true:=by
  have B:=(XB h0 h1 hc.apart).2.2.2.1 h
  have hl:=qs fr any
  have hf:=hc.le4
  have:(if any=true then 1 else 0)≤1:=by split <;> omega
  exact ⟨by omega,fun h=>by cases h⟩
theorem QcK:∀ (d fr:Nat) (any:Bool) (s:TS),CaOk fr any→s.e=0→0≤s.a→s.a≤s.t.size →
    (caF d fr any s).t=s.t∧s.a≤(caF d fr any s).a∧(caF d fr any s).a≤s.t.size∧((caF d fr any s).e=0∨(caF d fr any s).e=1∨(caF d fr any s).e=2)∧((caF d fr any s).e=1→(caF d fr any s).a=s.t.size)∧((caF d fr any s).e=2→(caF d fr any s).a<s.t.size)
  |0,fr,any,s,hc,he,h0,h1=>by
    unfold caF
    exact ⟨rfl,Int.le_refl _,h1,.inl he,fun h=>by omega,fun h=>by omega⟩
  |d+1,fr,any,s,hc,he,h0,h1=>by
    have B:=XB h0 h1 hc.apart
    have N:=QgL hc h0 h1
    unfold caF
    generalize QU s.t s.a (caW fr any)=z at B N ⊢
    by_cases c0:z.2.2=0
    · rw [if_pos c0]
      have b:=B.2.2.2.1 c0
      by_cases c1:z.2.1=4-(fr:Int)
      · rw [if_pos c1]
        exact ⟨rfl,by dsimp only;omega,by dsimp only;omega,.inl rfl,fun h=>by dsimp only at h;omega,fun h=>by dsimp only at h;omega⟩
      · rw [if_neg c1]
        have K:=QcK d (fr+z.2.1.toNat+1) true { s with a:=z.1,e:=0,ca:=Go.bits .or .i64 s.ca (2^(fr+z.2.1.toNat)) } (N c0 c1) rfl (by dsimp only;omega) (by dsimp only;omega)
        exact ⟨K.1,by have:=K.2.1;dsimp only at this;omega,K.2.2.1,K.2.2.2.1,K.2.2.2.2.1,K.2.2.2.2.2⟩
    · rw [if_neg c0]
      exact ⟨rfl,B.1,B.2.1,B.2.2.1,B.2.2.2.2.1,B.2.2.2.2.2⟩
theorem Qac(m:ByteArray):∀ (d fr:Nat) (any:Bool) (s:TS),CaOk fr any→s.e=0→0≤s.a→s.a≤s.t.size→GT m s (caF d fr any s) (caF d fr any (s.more m))
  |0,fr,any,s,hc,he,h0,h1=>by
    unfold caF
    exact Qei m he h1
  |d+1,fr,any,s,hc,he,h0,h1=>by
    have hs:=Qn s.t m
    have B:=XB h0 h1 hc.apart
    have N:=QgL hc h0 h1
    have A:=VI (t:=s.t) m h0 h1 hc.apart
    have E:=QfT (t:=s.t) hc h0 h1
    have bx:=QcK (d+1) fr any s hc he h0 h1
    have bY:=QcK (d+1) fr any (s.more m) hc he h0 (by rw [QaY];show s.a≤_;omega)
    refine ⟨bx.1,bx.2.1,bx.2.2.1,bx.2.2.2.1,bx.2.2.2.2.1,bx.2.2.2.2.2,bY.1,bY.2.1,bY.2.2.1,bY.2.2.2.1,?_,?_,?_⟩
    · intro h
      rw [caF] at h ⊢
      rw [caF]
      rw [show QU (s.more m).t (s.more m).a (caW fr any)=QU (s.t++m) s.a (caW fr any) from rfl]
      by_cases c0:(QU s.t s.a (caW fr any)).2.2=0
      · rw [A (.inr c0),if_pos c0]
        rw [if_pos c0] at h ⊢
        have b:=B.2.2.2.1 c0
        by_cases c1:(QU s.t s.a (caW fr any)).2.1=4-(fr:Int)
        · rw [if_pos c1] at h;dsimp only at h;omega
        · rw [if_neg c1] at h ⊢
          rw [if_neg c1]
          exact (Qac m d (fr+(QU s.t s.a (caW fr any)).2.1.toNat+1) true { s with a:=(QU s.t s.a (caW fr any)).1,e:=0,ca:=Go.bits .or .i64 s.ca (2^(fr+(QU s.t s.a (caW fr any)).2.1.toNat)) } (N c0 c1) rfl (by dsimp only;omega) (by dsimp only;omega)).app h
      · rw [if_neg c0] at h ⊢
        have h2:(QU s.t s.a (caW fr any)).2.2=2:=h
        rw [A (.inl h2),if_neg c0]
        exact ⟨rfl,h2⟩
    · intro h
      rw [caF] at h ⊢
      rw [caF]
      rw [show QU (s.more m).t (s.more m).a (caW fr any)=QU (s.t++m) s.a (caW fr any) from rfl]
      by_cases c0:(QU s.t s.a (caW fr any)).2.2=0
      · rw [A (.inr c0),if_pos c0]
        rw [if_pos c0] at h ⊢
        have b:=B.2.2.2.1 c0
        by_cases c1:(QU s.t s.a (caW fr any)).2.1=4-(fr:Int)
        · rw [if_pos c1,if_pos c1];exact .inl rfl
        · rw [if_neg c1] at h ⊢
          rw [if_neg c1]
          exact (Qac m d (fr+(QU s.t s.a (caW fr any)).2.1.toNat+1) true { s with a:=(QU s.t s.a (caW fr any)).1,e:=0,ca:=Go.bits .or .i64 s.ca (2^(fr+(QU s.t s.a (caW fr any)).2.1.toNat)) } (N c0 c1) rfl (by dsimp only;omega) (by dsimp only;omega)).ok h
      · rw [if_neg c0] at h
        exact absurd h c0
    · intro h
      rw [caF] at h
      by_cases c0:(QU s.t s.a (caW fr any)).2.2=0
      · rw [if_pos c0] at h
        rw [caF]
        rw [show QU (s.more m).t (s.more m).a (caW fr any)=QU (s.t++m) s.a (caW fr any) from rfl,A (.inr c0),if_pos c0]
        have b:=B.2.2.2.1 c0
        by_cases c1:(QU s.t s.a (caW fr any)).2.1=4-(fr:Int)
        · rw [if_pos c1] at h;dsimp only at h;omega
        · rw [if_neg c1] at h ⊢
          exact (Qac m d (fr+(QU s.t s.a (caW fr any)).2.1.toNat+1) true { s with a:=(QU s.t s.a (caW fr any)).1,e:=0,ca:=Go.bits .or .i64 s.ca (2^(fr+(QU s.t s.a (caW fr any)).2.1.toNat)) } (N c0 c1) rfl (by dsimp only;omega) (by dsimp only;omega)).late h
      · rw [if_neg c0] at h
        have:=E h
        have:=bY.2.1
        have h9:(s.more m).a=s.a:=rfl
        omega
theorem xY:GoodF Jo:=by
  refine ⟨fun s hs=>?_,fun s m he h0 h1=>?_⟩
  · unfold Jo;rw [if_neg hs];exact ⟨rfl,rfl,rfl⟩
  · unfold Jo
    rw [if_pos he,if_pos (show (s.more m).e=0 from he)]
    exact Qac m 5 0 false s ⟨by omega,fun _=>rfl⟩ he h0 h1
theorem jS:GoodF (fun s=>Jo (Qx spB s)):=(Xn (w:=spB) (by decide)).toGoodF.comp xY
theorem QcL:∀ (l m:List UInt8) (c:UInt8),(0≤Lib.indexByte l c→Lib.indexByte (l++m) c=Lib.indexByte l c)∧(Lib.indexByte l c<0→Lib.indexByte (l++m) c<0∨(l.length:Int)≤Lib.indexByte (l++m) c)
  | [],m,c=>by
    have:=xZ m c
    simp only [List.nil_append,Lib.indexByte,List.length_nil]
    exact ⟨fun h=>by omega,fun _=>by omega⟩
  |x::l,m,c=>by
    obtain ⟨h1,h2⟩:=QcL l m c
    have b:=xZ l c
    have b2:=xZ (l++m) c
    simp only [List.cons_append,Lib.indexByte,List.length_cons]
    by_cases e:(x==c)=true
    · rw [if_pos e,if_pos e];exact ⟨fun _=>rfl,fun h=>by omega⟩
    · rw [if_neg e,if_neg e]
      generalize Lib.indexByte l c=p at h1 h2 b ⊢
      generalize Lib.indexByte (l++m) c=q at h1 h2 b2 ⊢
      by_cases hp:p = -1
      · have hq:=h2 (by omega)
        rw [if_pos (by simpa using hp)]
        refine ⟨fun h=>by omega,fun _=>?_⟩
        by_cases hq1:q = -1
        · rw [if_pos (by simpa using hq1)];exact .inl (by omega)
        · rw [if_neg (by simpa using hq1)];exact .inr (by omega)
      · have hq:=h1 (by omega)
        rw [if_neg (by simpa using hp),hq,if_neg (by simpa using hp)]
        exact ⟨fun _=>rfl,fun h=>by omega⟩
theorem QfU{t m:ByteArray}{a:Int}(h0:0≤a)(h1:a≤t.size):(0≤lfZ t a→lfZ (t++m) a=lfZ t a)∧(lfZ t a<0→lfZ (t++m) a<0∨(t.size:Int)≤a+lfZ (t++m) a):=by
  have e:(t++m).data.toList.drop a.toNat=t.data.toList.drop a.toNat++m.data.toList:=by
    rw [ByteArray.data_append,Array.toList_append,List.drop_append_of_le_length (by simp;omega)]
  have hl:(t.data.toList.drop a.toNat).length=t.size-a.toNat:=by simp
  have I:=QcL (t.data.toList.drop a.toNat) m.data.toList 10
  unfold lfZ
  rw [e]
  refine ⟨I.1,fun h=>?_⟩
  have:=I.2 h
  omega
theorem QfV(t m:ByteArray){i j:Nat}(h:j≤t.size):(t++m).extract i j=t.extract i j:=by
  apply ByteArray.ext
  apply Array.ext'
  simp only [ByteArray.data_extract,ByteArray.data_append,Array.toList_extract,Array.toList_append,List.extract_eq_take_drop]
  rcases Nat.lt_or_ge t.size i with q|q
  · rw [show j-i=0 by omega];simp
  · rw [List.drop_append_of_le_length (by simpa using q),List.take_append_of_le_length (by simp;omega)]
theorem Qad(t m:ByteArray){i j:Nat}(hi:i≤t.size)(h:t.size≤j):(t++m).extract i j=t.extract i t.size++m.extract 0 (j-t.size):=by
  apply ByteArray.ext
  apply Array.ext'
  simp only [ByteArray.data_extract,ByteArray.data_append,Array.toList_extract,Array.toList_append,List.extract_eq_take_drop]
  rw [List.drop_append_of_le_length (by simpa using hi),List.take_append]
  have e1:(List.drop i t.data.toList).length=t.size-i:=by simp
  rw [e1,List.take_of_length_le (l:=List.drop i t.data.toList) (by rw [e1];omega),List.take_of_length_le (l:=List.drop i t.data.toList) (by rw [e1];omega)]
  rw [show j-i-(t.size-i)=j-t.size by omega,Nat.sub_zero,List.drop_zero]
theorem QcM{t m:ByteArray}{a:Int}(h0:0≤a)(h1:a≤t.size):
    ((Jl t a).2.2.2=0∧Jl (t++m) a=Jl t a∧(Jl t a).2.1=a+(Jl t a).1.size+1∧(Jl t a).2.1≤t.size) ∨
    ((Jl t a).2.2.2=1∧(Jl t a).2.1=t.size∧a+(Jl t a).1.size=t.size∧(∃ m2,(Jl (t++m) a).1=(Jl t a).1++m2)∧(t.size:Int)≤(Jl (t++m) a).2.1∧((Jl (t++m) a).2.2.2=0∨(Jl (t++m) a).2.2.2=1)∧(Jl (t++m) a).2.1≤(t++m).size):=by
  have hs:=Qn t m
  have b:=Qae h0 h1
  have b':=Qae (t:=t++m) h0 (by omega)
  obtain ⟨A,C⟩:=QfU (m:=m) h0 h1
  unfold Jl
  by_cases hv:lfZ t a<0
  · rw [if_pos hv]
    refine .inr ⟨rfl,rfl,by simp;omega,?_⟩
    by_cases hv2:lfZ (t++m) a<0
    · rw [if_pos hv2]
      refine ⟨⟨m.extract 0 ((t++m).size-t.size),?_⟩,by dsimp only;omega,.inr rfl,by dsimp only;omega⟩
      exact Qad t m (by omega) (by omega)
    · rw [if_neg hv2]
      have:=C hv
      refine ⟨⟨m.extract 0 ((a+lfZ (t++m) a).toNat-t.size),?_⟩,by dsimp only;omega,.inl rfl,by dsimp only;omega⟩
      exact Qad t m (by omega) (by omega)
  · rw [if_neg hv]
    refine .inl ⟨rfl,?_,by simp;omega,by dsimp only;omega⟩
    rw [A (by omega),if_neg hv,QfV t m (by omega)]
theorem jC{rd:ByteArray→List Int×Int×Int}(hr:BGood rd):GoodF (ZV rd):=by
  refine ⟨fun s hs=>?_,fun s m he h0 h1=>?_⟩
  · unfold ZV;rw [if_neg hs];exact ⟨rfl,rfl,rfl⟩
  · have hs:=Qn s.t m
    have Lsz:=VQ h0 h1
    have Lsz':=VQ (t:=s.t++m) h0 (by omega)
    unfold ZV
    rw [if_pos he,if_pos (show (s.more m).e=0 from he)]
    rw [show Jl (s.more m).t (s.more m).a=Jl (s.t++m) s.a from rfl]
    rcases QcM (m:=m) h0 h1 with ⟨l1,l2,l3,l4⟩|⟨l1,l2,l3,⟨m2,l4⟩,l5,l6,l7⟩
    · rw [l2]
      have b:=hr.bd (Jl s.t s.a).1
      have g:=hr.goes (Jl s.t s.a).1 ⟨#[]⟩
      generalize rd (Jl s.t s.a).1=r at b g ⊢
      by_cases c2:r.2.2=2
      · rw [if_pos c2,if_pos c2]
        have:r.2.1<(Jl s.t s.a).1.size:=by
          rcases g with g|g
          · exact g.2.1
          · omega
        exact ⟨rfl,by dsimp only;omega,by dsimp only;omega,.inr (.inr rfl),fun h=>by dsimp only at h;omega,fun _=>by dsimp only;omega,rfl,by dsimp only [TS.more];omega,by dsimp only [TS.more];omega,.inr (.inr rfl),fun _=>⟨rfl,rfl⟩,fun h=>by dsimp only at h;omega,fun h=>by dsimp only at h;omega⟩
      · rw [if_neg c2,if_neg c2,if_pos l1,if_pos l1]
        by_cases c0:r.2.2=0
        · rw [if_pos c0,if_pos c0]
          exact ⟨rfl,by dsimp only;omega,by dsimp only;omega,.inl l1,fun h=>by dsimp only at h;omega,fun h=>by dsimp only at h;omega,rfl,by dsimp only [TS.more];omega,by dsimp only [TS.more];omega,.inl l1,fun h=>by dsimp only at h;omega,fun _=>.inl rfl,fun h=>by dsimp only at h;omega⟩
        · rw [if_neg c0,if_neg c0]
          exact ⟨rfl,by dsimp only;omega,by dsimp only;omega,.inr (.inr rfl),fun h=>by dsimp only at h;omega,fun _=>by dsimp only;omega,rfl,by dsimp only [TS.more];omega,by dsimp only [TS.more];omega,.inr (.inr rfl),fun _=>⟨rfl,rfl⟩,fun h=>by dsimp only at h;omega,fun h=>by dsimp only at h;omega⟩
    · rw [l4] at Lsz' ⊢
      have b:=hr.bd (Jl s.t s.a).1
      have b':=hr.bd ((Jl s.t s.a).1++m2)
      have g:=hr.goes (Jl s.t s.a).1 m2
      generalize rd (Jl s.t s.a).1=r at b g ⊢
      generalize rd ((Jl s.t s.a).1++m2)=r' at b' g ⊢
      by_cases c2:r.2.2=2
      · have g2:r.2.1<(Jl s.t s.a).1.size∧r'=r:=by
          rcases g with g|g
          · exact g.2
          · omega
        rw [g2.2,if_pos c2,if_pos c2]
        exact ⟨rfl,by dsimp only;omega,by dsimp only;omega,.inr (.inr rfl),fun h=>by dsimp only at h;omega,fun _=>by dsimp only;omega,rfl,by dsimp only [TS.more];omega,by dsimp only [TS.more];omega,.inr (.inr rfl),fun _=>⟨rfl,rfl⟩,fun h=>by dsimp only at h;omega,fun h=>by dsimp only at h;omega⟩
      · have g2:((Jl s.t s.a).1.size:Int)≤r'.2.1:=by
          rcases g with g|g
          · omega
          · exact g.2.2
        rw [if_neg c2,if_neg (show ¬ (Jl s.t s.a).2.2.2=0 by omega)]
        have Y:∀ y:TS,y.t=s.t++m→(s.t.size:Int)≤y.a→y.a≤(s.t++m).size→(y.e=0∨y.e=1∨y.e=2)→GT m s { s with a:=(Jl s.t s.a).2.1,e:=(Jl s.t s.a).2.2.2 } y:=fun y y1 y2 y3 y4=>
          ⟨rfl,by dsimp only;omega,by dsimp only;omega,.inr (.inl l1),fun _=>l2,fun h=>by dsimp only at h;omega,y1,by omega,y3,y4,fun h=>by dsimp only at h;omega,fun h=>by dsimp only at h;omega,fun _=>y2⟩
        have sz:=Qn (Jl s.t s.a).1 m2
        by_cases d2:r'.2.2=2
        · rw [if_pos d2]
          exact Y _ rfl (by dsimp only [TS.more];omega) (by dsimp only [TS.more];omega) (.inr (.inr rfl))
        · rw [if_neg d2]
          by_cases d3:(Jl (s.t++m) s.a).2.2.2=0
          · rw [if_pos d3]
            by_cases d0:r'.2.2=0
            · rw [if_pos d0]
              exact Y _ rfl l5 l7 (.inl d3)
            · rw [if_neg d0]
              exact Y _ rfl (by dsimp only [TS.more];omega) (by dsimp only [TS.more];omega) (.inr (.inr rfl))
          · rw [if_neg d3]
            exact Y _ rfl l5 l7 (by dsimp only;omega)
set_option maxHeartbeats 40000000
set_option maxRecDepth 100000
open Go.RowKit
set_option linter.unusedVariables false
set_option linter.unusedSimpArgs false
theorem GoodF.dep{α:Type}{f:TS→α×TS}{g:α→TS→TS}(hf:GoodF (fun s=>(f s).2))(hg:∀ n,GoodF (g n))
    (hok:∀ s m,s.e=0→0≤s.a→s.a≤s.t.size→(f s).2.e=0→((f (s.more m)).1=(f s).1∧(f (s.more m)).2=(f s).2.more m)∨((f s).2.a=s.t.size∧(s.t.size:Int)≤(f (s.more m)).2.a)):GoodF (fun s=>g (f s).1 (f s).2):=by
  refine ⟨fun s hs=>?_,fun s m he h0 h1=>?_⟩
  · obtain ⟨a1,a2,a3⟩:=hf.off s hs
    obtain ⟨b1,b2,b3⟩:=(hg (f s).1).off (f s).2 (by rw [a3];exact hs)
    exact ⟨b1.trans a1,b2.trans a2,b3.trans a3⟩
  · have G:GT m s (f s).2 (f (s.more m)).2:=hf.goes s m he h0 h1
    have K0:=hok s m he h0 h1
    have hs:=Qn s.t m
    show GT m s (g (f s).1 (f s).2) (g (f (s.more m)).1 (f (s.more m)).2)
    generalize f s=X at G K0 ⊢
    generalize f (s.more m)=Y at G K0 ⊢
    obtain ⟨n,X⟩:=X
    obtain ⟨n',Y⟩:=Y
    dsimp only at G K0 ⊢
    have hYa:(0:Int)≤Y.a:=by have:=G.ge';omega
    have hXa:(0:Int)≤X.a:=by have:=G.ge;omega
    have le1:=G.le;have ge1:=G.ge
    have hY:(g n' Y).t=s.t++m∧Y.a≤(g n' Y).a∧(g n' Y).a≤(s.t++m).size∧((g n' Y).e=0∨(g n' Y).e=1∨(g n' Y).e=2):=by
      by_cases hy:Y.e=0
      · have b:=(hg n').bd hy hYa (by rw [G.t'];exact G.le')
        rw [G.t'] at b
        exact ⟨b.1,b.2.1,b.2.2.1,b.2.2.2.1⟩
      · obtain ⟨b1,b2,b3⟩:=(hg n').off Y hy
        exact ⟨b1.trans G.t',by omega,by rw [b2];exact G.le',by rw [b3];exact G.ee'⟩
    have geY:=G.ge'
    by_cases hx:X.e=0
    · have bx:=(hg n).bd hx hXa (by rw [G.t];exact G.le)
      rw [G.t] at bx
      rcases K0 hx with ⟨hn,hyx⟩|⟨hxa,hlate⟩
      · subst hyx hn
        have K:=(hg n').goes X m hx hXa (by rw [G.t];exact G.le)
        have kok:=K.ok;have klate:=K.late
        rw [G.t] at kok klate
        exact ⟨bx.1,by omega,bx.2.2.1,bx.2.2.2.1,bx.2.2.2.2.1,bx.2.2.2.2.2,hY.1,by omega,hY.2.2.1,hY.2.2.2,K.app,kok,klate⟩
      · exact ⟨bx.1,by omega,bx.2.2.1,bx.2.2.2.1,bx.2.2.2.2.1,bx.2.2.2.2.2,hY.1,by omega,hY.2.2.1,hY.2.2.2,
          fun h=>by have:=bx.2.2.2.2.2 h;omega,fun h=>.inr ⟨by omega,by omega⟩,fun h=>by omega⟩
    · obtain ⟨b1,b2,b3⟩:=(hg n).off X hx
      refine ⟨b1.trans G.t,by omega,by omega,by rw [b3];exact G.ee,fun h=>by rw [b2];exact G.one (b3▸h),fun h=>by rw [b2];exact G.two (b3▸h),hY.1,by omega,hY.2.2.1,hY.2.2.2,fun h=>?_,fun h=>absurd (b3▸h) hx,fun h=>?_⟩
      · obtain ⟨c1,c2⟩:=G.app (b3▸h)
        obtain ⟨d1,d2,d3⟩:=(hg n').off Y (by omega)
        exact ⟨by omega,by omega⟩
      · have:=G.late (b3▸h);omega
theorem jd{ws:List ByteArray}(hw:Jq ws=true){g:Int→TS→TS}(hg:∀ n,GoodF (g n)):GoodF (fun s=>g (QS ws s).1 (QS ws s).2):=
  GoodF.dep (f:=QS ws) (VJ hw).toGoodF hg fun s m he h0 h1 hz=>.inl (by rw [VK hw m he h0 h1 (.inl hz)];exact ⟨rfl,rfl⟩)
theorem Qem{l k:Int}(hl:0≤l∧l≤k∧k≤1000000){g:Int→TS→TS}(hg:∀ n,GoodF (g n)):GoodF (fun s=>g (Kr l k s).1 (Kr l k s).2):=
  GoodF.dep (f:=Kr l k) (jB hl (fun _ s=>s) (fun _ _=>⟨rfl,rfl,rfl⟩) (fun _ _ _=>rfl)) hg fun s m he h0 h1 hz=>by
    unfold Kr at hz ⊢
    rw [if_pos he] at hz
    rw [if_pos he,if_pos (show (s.more m).e=0 from he)]
    show ((JM (s.t++m) s.a l k).2.1=_∧TS.at_ (s.more m) (JM (s.t++m) s.a l k)=_)∨(_∧(s.t.size:Int)≤(JM (s.t++m) s.a l k).1)
    rcases (xX (least:=l) (most:=k) m h0 h1 hl).ok hz with q|q
    · rw [q];exact .inl ⟨rfl,rfl⟩
    · exact .inr q
theorem zm{u:TS→TS}(hu:∀ s,(u s).t=s.t∧(u s).a=s.a∧(u s).e=s.e)(hm:∀ s m,u (s.more m)=(u s).more m):GoodF u:=by
  refine ⟨fun s _=>hu s,fun s m he h0 h1=>?_⟩
  obtain ⟨u1,u2,u3⟩:=hu s
  have hs:=Qn s.t m
  rw [hm]
  exact ⟨u1,by omega,by omega,.inl (by omega),fun h=>by omega,fun h=>by omega,by show (u s).t++m=_;rw [u1],by show s.a≤(u s).a;omega,by show (u s).a≤_;omega,.inl (show (u s).e=0 by omega),fun h=>by omega,fun _=>.inl rfl,fun h=>by omega⟩
def qt(k g n:Int)(h:Bool)(s:TS):TS:={ s with ki:=k,go:=g,n:=n,hf:=h }
def qH(k g n:Int)(h:Bool)(s:TS):TS:=if s.e=0 then qt k g n h s else qt 0 0 0 false s
theorem qI(k g n:Int)(h:Bool):GoodF (qH k g n h):=by
  refine zm (fun s=>?_) (fun s m=>?_)
  · unfold qH;split <;> exact ⟨rfl,rfl,rfl⟩
  · unfold qH
    by_cases q:s.e=0
    · rw [if_pos q,if_pos (show (s.more m).e=0 from q)];rfl
    · rw [if_neg q,if_neg (show ¬ (s.more m).e=0 from q)];rfl
def zn(k g n:Int)(s:TS):TS:=if n=0 then qH k g n true (Qx Xi s) else if s.e=0∧s.a<s.t.size∧bt s.t s.a.toNat=46 then qH k g n true (Qx Xi s) else qH k g n false s
theorem Qbc(k g n:Int):GoodF (zn k g n):=by
  have W:GoodF (fun s=>qH k g n true (Qx Xi s)):=(Xn (w:=Xi) (by decide)).toGoodF.comp (qI k g n true)
  have E:=qI k g n false
  refine ⟨fun s hs=>?_,fun s m he h0 h1=>?_⟩
  · unfold zn
    split
    · exact W.off s hs
    · rw [if_neg (fun h=>hs h.1)];exact E.off s hs
  · unfold zn
    by_cases c:n=0
    · rw [if_pos c,if_pos c];exact W.goes s m he h0 h1
    · rw [if_neg c,if_neg c]
      have hs:=Qn s.t m
      by_cases c2:s.e=0∧s.a<s.t.size∧bt s.t s.a.toNat=46
      · rw [if_pos c2,if_pos (show (s.more m).e=0∧(s.more m).a<(s.more m).t.size∧bt (s.more m).t (s.more m).a.toNat=46 from ⟨he,by show s.a<((s.t++m).size:Int);omega,by show bt (s.t++m) s.a.toNat=46;rw [XP _ _ (by omega)];exact c2.2.2⟩)]
        exact W.goes s m he h0 h1
      · rw [if_neg c2]
        rcases (show s.a<s.t.size∨s.a=s.t.size by omega) with q|q
        · rw [if_neg (show ¬ ((s.more m).e=0∧(s.more m).a<(s.more m).t.size∧bt (s.more m).t (s.more m).a.toNat=46) from fun h=>c2 ⟨he,q,by have h2:=h.2.2;rw [show bt (s.more m).t (s.more m).a.toNat=bt (s.t++m) s.a.toNat from rfl,XP _ _ (by omega)] at h2;exact h2⟩)]
          exact E.goes s m he h0 h1
        · have X:qH k g n false s=qt k g n false s:=by unfold qH;rw [if_pos he]
          rw [X]
          have Y:∀ y:TS,y.t=s.t++m→s.a≤y.a→y.a≤(s.t++m).size→(y.e=0∨y.e=1∨y.e=2)→GT m s (qt k g n false s) y:=fun y y1 y2 y3 y4=>
            ⟨rfl,Int.le_refl _,h1,.inl he,fun h=>by rw [show (qt k g n false s).e=s.e from rfl] at h;omega,fun h=>by rw [show (qt k g n false s).e=s.e from rfl] at h;omega,y1,y2,y3,y4,fun h=>by rw [show (qt k g n false s).e=s.e from rfl] at h;omega,fun _=>.inr ⟨q,by omega⟩,fun h=>by rw [show (qt k g n false s).e=s.e from rfl] at h;omega⟩
          split
          · have b:=W.goes s m he h0 h1
            exact Y _ b.t' b.ge' b.le' b.ee'
          · have b:=E.goes s m he h0 h1
            exact Y _ b.t' b.ge' b.le' b.ee'
def VT(i:Int):Int×Int×Int×Bool:=nt VH i.toNat (0,0,0,false)
def Qbd(i N:Int)(s:TS):TS:=if (VT i).1=5 then zn (VT i).1 (VT i).2.1 N s else qH (VT i).1 (VT i).2.1 N (VT i).2.2.2 s
theorem QcR(i N:Int):GoodF (Qbd i N):=by
  unfold Qbd
  by_cases h:(VT i).1=5
  · simp only [if_pos h];exact Qbc _ _ _
  · simp only [if_neg h];exact qI _ _ _ _
def jE(i:Int):Int:=if (VT i).1=5 then 0 else 1
def QfY(i:Int)(s:TS):TS:=Qbd i (Kr (jE i) 64 s).1 (Kr (jE i) 64 s).2
theorem Qbe(i:Int):GoodF (QfY i):=Qem (l:=jE i) (k:=64) (by unfold jE;split <;> omega) (fun n=>QcR i n)
def QcS(s:TS):TS:=QfY (QS Zq s).1 (QS Zq s).2
theorem vl:GoodF QcS:=jd Kq Qbe
theorem QcT{i N:Int}{s:TS}(hs:s.e≠0):Qbd i N s=qt 0 0 0 false s:=by
  unfold Qbd zn
  have e:∀ k g n h,qH k g n h s=qt 0 0 0 false s:=fun k g n h=>by unfold qH;rw [if_neg hs]
  have w:Qx Xi s=s:=by unfold Qx;rw [if_neg hs]
  rw [w,e,e,e]
  (repeat' split) <;> rfl
theorem ke{s:TS}(he:s.e=0)(h0:0≤s.a)(h1:s.a≤s.t.size):XM s=QcS s:=by
  have A:=XB (t:=s.t) h0 h1 Kq
  unfold XM QcS QS JS
  rw [if_pos he,if_pos he]
  generalize QU s.t s.a Zq=x at A ⊢
  unfold jy QfY Kr
  unfold TS.at_
  dsimp only
  by_cases c1:x.2.2=0
  · rw [if_pos c1,if_pos c1]
    have B:=fun (l:Int) (hl:0≤l∧l≤64∧(64:Int)≤1000000)=>qp (t:=s.t) (a:=x.1) (least:=l) (most:=64) (by omega) (by omega) hl
    unfold Qbd jE zn qH Qx TS.at_
    rw [show nt VH x.2.1.toNat (0,0,0,false)=VT x.2.1 from rfl]
    generalize VT x.2.1=q
    by_cases c2:q.1=5
    · rw [if_pos c2,if_pos c2,if_pos c2]
      dsimp only
      have b:=B 0 (by omega)
      generalize JM s.t x.1 0 64=m at b ⊢
      by_cases c3:m.2.2=0
      · rw [if_pos c3,if_pos c3]
        by_cases c4:m.2.1=0
        · rw [if_pos c4,if_pos c4]
          generalize Jv s.t m.1 Xi=z
          by_cases c5:z.2.2=0
          · rw [if_pos c5,if_pos c5];unfold qt;dsimp only;rw [c5]
          · rw [if_neg c5,if_neg c5];rfl
        · rw [if_neg c4,if_neg c4]
          by_cases c6:m.1<s.t.size∧bt s.t m.1.toNat=46
          · rw [if_pos c6,if_pos (show m.2.2=0∧m.1<(s.t.size:Int)∧bt s.t m.1.toNat=46 from ⟨c3,c6⟩)]
            generalize Jv s.t m.1 Xi=z
            by_cases c5:z.2.2=0
            · rw [if_pos c5,if_pos c5];unfold qt;dsimp only;rw [c5]
            · rw [if_neg c5,if_neg c5];rfl
          · rw [if_neg c6,if_neg (show ¬ (m.2.2=0∧m.1<(s.t.size:Int)∧bt s.t m.1.toNat=46) from fun h=>c6 h.2),if_pos c3];unfold qt;dsimp only;rw [c3]
      · rw [if_neg c3]
        have e:∀ (y:TS),y.e=m.2.2→¬ y.e=0:=fun y h=>by omega
        simp only [if_neg c3]
        (repeat' split) <;> first|rfl|(exfalso;omega)
    · rw [if_neg c2,if_neg c2,if_neg c2]
      dsimp only
      have b:=B 1 (by omega)
      generalize JM s.t x.1 1 64=m at b ⊢
      by_cases c3:m.2.2=0
      · rw [if_pos c3,if_pos c3];unfold qt;dsimp only;rw [c3]
      · rw [if_neg c3,if_neg c3];rfl
  · rw [if_neg c1,if_neg c1,QcT (show ¬ x.2.2=0 from c1)];rfl
theorem jF:GoodF XM:=by
  refine ⟨fun s hs=>?_,fun s m he h0 h1=>?_⟩
  · unfold XM;rw [if_neg hs];exact ⟨rfl,rfl,rfl⟩
  · have hs:=Qn s.t m
    rw [ke he h0 h1,ke (s:=s.more m) he h0 (by show s.a≤((s.t++m).size:Int);omega)]
    exact vl.goes s m he h0 h1
theorem Kl:GoodF JP:=((Xn (w:=XV) (by decide)).toGoodF.comp jF).comp (Xn (w:=nlB) (by decide)).toGoodF
theorem Xo:GoodF JQ:=(Xn (w:=ZW) (by decide)).toGoodF.comp (jd qc (g:=fun n s=>if n=0 then ZV rdZ s else ZV rlZ s) (fun n=>by
  by_cases h:n=0
  · simp only [if_pos h];exact jC xH
  · simp only [if_neg h];exact jC xK))
end Go.Proofs.YtaipghemddjecaaGreatDoor
