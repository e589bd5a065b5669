import Derived.Test.YtaipghemddjecaaGreatDoorToy
namespace Go.Proofs.YtaipghemddjecaaGreatDoor
set_option maxHeartbeats 40000000
set_option maxRecDepth 100000
open Go.RowKit
open Go.Maps (Keyed)
set_option linter.unusedVariables false
set_option linter.unusedSimpArgs false
abbrev TC(s:TS):Array Value:=yv [.string s.t,.int .i64 s.a,.int .i64 s.e] (Value.int .i8) s.b [.int .i64 s.tu,.int .i64 s.ca,.int .i64 s.ep,.int .i64 s.ki,.int .i64 s.go,.int .i64 s.n,.bool s.hf,.bool s.tr,.bool s.se,.int .i64 s.mx,.int .i64 s.rt,.int .i64 s.sd,s.le]
structure RB (w:World) (g:Nat) (s:TS):Prop where
  len:s.b.length=64
  blk:Blk w g 54 (TC s)
theorem vn(s:TS)(u:ByteArray){g:Nat}{w:World}(hB:RB w g s)(hs:s.ok)(hu:u.size≤1000):Calls Tryz.prog 39 #[.pointer (some ⟨g,0,none⟩),.string u] w fun e w'=>e=.returned (.tuple #[])∧RB w' g (Qx u s)∧Bex g w.heap.size w w':=
  (Qk.c 30000 s.t s.a s.e s.b s.tu s.ca s.ep s.ki s.go s.n s.hf s.tr s.se s.mx s.rt s.sd s.le u hB.len (Qx u s).t (Qx u s).a (Qx u s).e (Qx u s).b (Qx u s).tu (Qx u s).ca (Qx u s).ep (Qx u s).ki (Qx u s).go (Qx u s).n (Qx u s).hf (Qx u s).tr (Qx u s).se (Qx u s).mx (Qx u s).rt (Qx u s).sd (Qx u s).le g w hB.blk (VM s u hs hu)).mono fun e w' ⟨h1,h2,h3,h4⟩=>⟨h1,⟨h2,h3⟩,h4⟩
theorem qU(s:TS)(ws:List ByteArray)(v:Value){g:Nat}{w:World}(hB:RB w g s)(hs:s.ok)(hv:SlT w 9 v (ws.map Value.string))(hn:ws.length≤100)(hw:∀ i,i<ws.length→(wd ws i).size≤1000):
    Calls Tryz.prog 37 #[.pointer (some ⟨g,0,none⟩),v] w fun e w'=>e=.returned (.int .i64 (QS ws s).1)∧RB w' g (QS ws s).2∧Bex g w.heap.size w w':=
  (Qt.c 30000 s.t s.a s.e s.b s.tu s.ca s.ep s.ki s.go s.n s.hf s.tr s.se s.mx s.rt s.sd s.le v ws hB.len (QS ws s).1 (QS ws s).2.t (QS ws s).2.a (QS ws s).2.e (QS ws s).2.b (QS ws s).2.tu (QS ws s).2.ca (QS ws s).2.ep (QS ws s).2.ki (QS ws s).2.go (QS ws s).2.n (QS ws s).2.hf (QS ws s).2.tr (QS ws s).2.se (QS ws s).2.mx (QS ws s).2.rt (QS ws s).2.sd (QS ws s).2.le g w hB.blk hv (Qaf s ws hs hn hw (k:=30000) (by omega))).mono fun e w' ⟨h1,h2,h3,h4⟩=>⟨h1,⟨h2,h3⟩,h4⟩
theorem qd(s:TS){g:Nat}{w:World}(hB:RB w g s)(hs:s.ok):Calls Tryz.prog 18 #[.pointer (some ⟨g,0,none⟩)] w fun e w'=>e=.returned (.tuple #[])∧RB w' g (JQ s)∧Bex g w.heap.size w w':=
  (Zb.c 30000 s.t s.a s.e s.b s.tu s.ca s.ep s.ki s.go s.n s.hf s.tr s.se s.mx s.rt s.sd s.le hB.len (JQ s).t (JQ s).a (JQ s).e (JQ s).b (JQ s).tu (JQ s).ca (JQ s).ep (JQ s).ki (JQ s).go (JQ s).n (JQ s).hf (JQ s).tr (JQ s).se (JQ s).mx (JQ s).rt (JQ s).sd (JQ s).le g w hB.blk (Qgc s hs)).mono fun e w' ⟨h1,h2,h3,h4⟩=>⟨h1,⟨h2,h3⟩,h4⟩
theorem VN(s:TS){g:Nat}{w:World}(hB:RB w g s)(hs:s.ok):Calls Tryz.prog 19 #[.pointer (some ⟨g,0,none⟩)] w fun e w'=>e=.returned (.tuple #[])∧RB w' g (JP s)∧Bex g w.heap.size w w':=
  (JI.c 30000 s.t s.a s.e s.b s.tu s.ca s.ep s.ki s.go s.n s.hf s.tr s.se s.mx s.rt s.sd s.le hB.len (JP s).t (JP s).a (JP s).e (JP s).b (JP s).tu (JP s).ca (JP s).ep (JP s).ki (JP s).go (JP s).n (JP s).hf (JP s).tr (JP s).se (JP s).mx (JP s).rt (JP s).sd (JP s).le g w hB.blk (Qes s hs)).mono fun e w' ⟨h1,h2,h3,h4⟩=>⟨h1,⟨h2,h3⟩,h4⟩
theorem QcZ(s:TS){g:Nat}{w:World}(hB:RB w g s)(hs:s.ok):Calls Tryz.prog 41 #[.pointer (some ⟨g,0,none⟩)] w fun e w'=>e=.returned (.tuple #[])∧RB w' g (Jo (Qx spB s))∧Bex g w.heap.size w w':=
  (ZQ.c 30000 s.t s.a s.e s.b s.tu s.ca s.ep s.ki s.go s.n s.hf s.tr s.se s.mx s.rt s.sd s.le hB.len (Jo (Qx spB s)).t (Jo (Qx spB s)).a (Jo (Qx spB s)).e (Jo (Qx spB s)).b (Jo (Qx spB s)).tu (Jo (Qx spB s)).ca (Jo (Qx spB s)).ep (Jo (Qx spB s)).ki (Jo (Qx spB s)).go (Jo (Qx spB s)).n (Jo (Qx spB s)).hf (Jo (Qx spB s)).tr (Jo (Qx spB s)).se (Jo (Qx spB s)).mx (Jo (Qx spB s)).rt (Jo (Qx spB s)).sd (Jo (Qx spB s)).le g w hB.blk (vm s hs)).mono fun e w' ⟨h1,h2,h3,h4⟩=>⟨h1,⟨h2,h3⟩,h4⟩
theorem Qda(s:TS){g:Nat}{w:World}(hB:RB w g s)(hs:s.ok):Calls Tryz.prog 43 #[.pointer (some ⟨g,0,none⟩)] w fun e w'=>e=.returned (.tuple #[])∧RB w' g (sqR (Qx spB s))∧Bex g w.heap.size w w':=
  (ZR.c 30000 s.t s.a s.e s.b s.tu s.ca s.ep s.ki s.go s.n s.hf s.tr s.se s.mx s.rt s.sd s.le hB.len (sqR (Qx spB s)).t (sqR (Qx spB s)).a (sqR (Qx spB s)).e (sqR (Qx spB s)).b (sqR (Qx spB s)).tu (sqR (Qx spB s)).ca (sqR (Qx spB s)).ep (sqR (Qx spB s)).ki (sqR (Qx spB s)).go (sqR (Qx spB s)).n (sqR (Qx spB s)).hf (sqR (Qx spB s)).tr (sqR (Qx spB s)).se (sqR (Qx spB s)).mx (sqR (Qx spB s)).rt (sqR (Qx spB s)).sd (sqR (Qx spB s)).le g w hB.blk (Qhd s hs)).mono fun e w' ⟨h1,h2,h3,h4⟩=>⟨h1,⟨h2,h3⟩,h4⟩
theorem Qdb(s:TS){g:Nat}{w:World}(hB:RB w g s)(hs:s.ok):Calls Tryz.prog 38 #[.pointer (some ⟨g,0,none⟩)] w fun e w'=>e=.returned (.tuple #[])∧RB w' g (maxR s)∧Bex g w.heap.size w w':=
  (ZP.c 30000 s.t s.a s.e s.b s.tu s.ca s.ep s.ki s.go s.n s.hf s.tr s.se s.mx s.rt s.sd s.le hB.len (maxR s).t (maxR s).a (maxR s).e (maxR s).b (maxR s).tu (maxR s).ca (maxR s).ep (maxR s).ki (maxR s).go (maxR s).n (maxR s).hf (maxR s).tr (maxR s).se (maxR s).mx (maxR s).rt (maxR s).sd (maxR s).le g w hB.blk (QgP s hs)).mono fun e w' ⟨h1,h2,h3,h4⟩=>⟨h1,⟨h2,h3⟩,h4⟩
theorem Qdc(s:TS){g:Nat}{w:World}(hB:RB w g s)(hs:s.ok):Calls Tryz.prog 46 #[.pointer (some ⟨g,0,none⟩)] w fun e w'=>e=.returned (.tuple #[])∧RB w' g (Zr s)∧Bex g w.heap.size w w':=
  (ZS.c 30000 s.t s.a s.e s.b s.tu s.ca s.ep s.ki s.go s.n s.hf s.tr s.se s.mx s.rt s.sd s.le hB.len (Zr s).t (Zr s).a (Zr s).e (Zr s).b (Zr s).tu (Zr s).ca (Zr s).ep (Zr s).ki (Zr s).go (Zr s).n (Zr s).hf (Zr s).tr (Zr s).se (Zr s).mx (Zr s).rt (Zr s).sd (Zr s).le g w hB.blk (Qeq s hs)).mono fun e w' ⟨h1,h2,h3,h4⟩=>⟨h1,⟨h2,h3⟩,h4⟩
theorem Qdd(s:TS){g:Nat}{w:World}(hB:RB w g s)(hs:s.ok):Calls Tryz.prog 36 #[.pointer (some ⟨g,0,none⟩)] w fun e w'=>e=.returned (.tuple #[])∧RB w' g (ZU s)∧Bex g w.heap.size w w':=
  (ZO.c 30000 s.t s.a s.e s.b s.tu s.ca s.ep s.ki s.go s.n s.hf s.tr s.se s.mx s.rt s.sd s.le hB.len (ZU s).t (ZU s).a (ZU s).e (ZU s).b (ZU s).tu (ZU s).ca (ZU s).ep (ZU s).ki (ZU s).go (ZU s).n (ZU s).hf (ZU s).tr (ZU s).se (ZU s).mx (ZU s).rt (ZU s).sd (ZU s).le g w hB.blk (Qga s hs)).mono fun e w' ⟨h1,h2,h3,h4⟩=>⟨h1,⟨h2,h3⟩,h4⟩
theorem Qde(s:TS){g:Nat}{w:World}(hB:RB w g s)(hs:s.ok):Calls Tryz.prog 35 #[.pointer (some ⟨g,0,none⟩)] w fun e w'=>e=.returned (.tuple #[])∧RB w' g { s with se:=true }∧Bex g w.heap.size w w':=
  (XA.c s.t s.a s.e s.b s.tu s.ca s.ep s.ki s.go s.n s.hf s.tr s.se s.mx s.rt s.sd s.le hB.len s.t s.a s.e s.b s.tu s.ca s.ep s.ki s.go s.n s.hf s.tr true s.mx s.rt s.sd s.le g w hB.blk (QgO s)).mono fun e w' ⟨h1,h2,h3,h4⟩=>⟨h1,⟨h2,h3⟩,h4⟩
theorem Qdf(s:TS){g:Nat}{w:World}(hB:RB w g s)(hs:s.ok):Calls Tryz.prog 34 #[.pointer (some ⟨g,0,none⟩)] w fun e w'=>e=.returned (.tuple #[])∧RB w' g { s with tr:=true }∧Bex g w.heap.size w w':=
  (Xz.c s.t s.a s.e s.b s.tu s.ca s.ep s.ki s.go s.n s.hf s.tr s.se s.mx s.rt s.sd s.le hB.len s.t s.a s.e s.b s.tu s.ca s.ep s.ki s.go s.n s.hf true s.se s.mx s.rt s.sd s.le g w hB.blk (QgN s)).mono fun e w' ⟨h1,h2,h3,h4⟩=>⟨h1,⟨h2,h3⟩,h4⟩
def Vx(i:Nat)(s:TS):TS:=match i with
  |0=>Jo (Qx spB s)
  |1=>sqR (Qx spB s)
  |2=>maxR s
  |3=>Zr s
  |4=>{ s with se:=true }
  |5=>ZU s
  |_=>{ s with tr:=true }
theorem Qbi:∀ (i:Nat) (s:TS) {g:Nat} {w:World} (hB:RB w g s) (hs:s.ok),Calls Tryz.prog (zT i) #[.pointer (some ⟨g,0,none⟩)] w fun e w'=>e=.returned (.tuple #[])∧RB w' g (Vx i s)∧Bex g w.heap.size w w'
  |0,s,_,_,hB,hs=>QcZ s hB hs
  |1,s,_,_,hB,hs=>Qda s hB hs
  |2,s,_,_,hB,hs=>Qdb s hB hs
  |3,s,_,_,hB,hs=>Qdc s hB hs
  |4,s,_,_,hB,hs=>Qde s hB hs
  |5,s,_,_,hB,hs=>Qdd s hB hs
  |n+6,s,_,_,hB,hs=>Qdf s hB hs
def QF(L:List Nat)(s:TS):TS×List Nat:=
  if (QS (L.map Jj) s).2.e=0 then (Qx nlB (Vx (L.getD (QS (L.map Jj) s).1.toNat 0) (QS (L.map Jj) s).2),L.eraseIdx (QS (L.map Jj) s).1.toNat) else ((QS (L.map Jj) s).2,L)
theorem Ks(u:ByteArray)(s:TS):(Qx u s).le=s.le:=by unfold Qx;split <;> rfl
theorem VR(ws:List ByteArray)(s:TS):(QS ws s).2.le=s.le:=by unfold QS;split <;> rfl
theorem Qag(l m:Int)(s:TS):(Kr l m s).2.le=s.le:=by unfold Kr;split <;> rfl
theorem Qdg:∀ (d fr:Nat) (any:Bool) (s:TS),(caF d fr any s).le=s.le
  |0,_,_,_=>rfl
  |d+1,fr,any,s=>by
    unfold caF
    split
    · split
      · rfl
      · exact Qdg d _ _ _
    · rfl
theorem vo(s:TS):(Jo s).le=s.le:=by unfold Jo;split;exact Qdg _ _ _ _;rfl
theorem Qah(i:Nat)(s:TS):(Vx i s).le=s.le:=by
  unfold Vx
  split
  · exact (vo _).trans (Ks _ _)
  · unfold sqR;split <;> exact Ks _ _
  · exact (Qag _ _ _).trans (Ks _ _)
  · exact (Qag _ _ _).trans (Ks _ _)
  · rfl
  · exact VR _ _
  · rfl
theorem GoodF.ok{f:TS→TS}(h:GoodF f){s:TS}(hs:s.ok):(f s).ok:=by
  by_cases he:s.e=0
  · have b:=h.bd he hs.a0 hs.a1
    have:=hs.a0
    exact ⟨by rw [b.1];exact hs.t,by omega,by rw [b.1];exact b.2.2.1⟩
  · obtain ⟨h1,h2,h3⟩:=h.off s he
    exact ⟨by rw [h1];exact hs.t,by rw [h2];exact hs.a0,by rw [h1,h2];exact hs.a1⟩
theorem Vj(i:Nat):GoodF (Vx i):=by
  unfold Vx
  split
  · exact jS
  · exact Qeh
  · exact QcG
  · exact vf
  · exact QcI.toGoodF
  · exact QaZ.toGoodF
  · exact QcJ.toGoodF
end Go.Proofs.YtaipghemddjecaaGreatDoor
